/- Part of the proof that this claim's law answers true, whatever its arguments. Condition: the laid variables hold what their initialisers lay (the card ties that to the program's text). -/
import Derived.Test.YthkkklphanidjaaGreatDoorTie
import Derived.Test.YthkkklphanidjaaGreatDoorQG
set_option maxRecDepth 10000
set_option linter.unusedVariables false
set_option linter.unusedSimpArgs false
open Go.Proofs.Tryz renaming underlying1→Un1,underlying3→Un3,underlying4→Un4,underlying9→Un9,underlying20→Un20,underlying21→Un21,underlying23→Un23,underlying24→Un24,underlying26→Un26,underlying27→Un27,underlying29→Un29,underlying34→Un34,underlying35→Un35,underlying37→Un37,underlying38→Un38,underlying40→Un40,underlying42→Un42,underlying43→Un43,underlying44→Un44,underlying45→Un45,underlying47→Un47,underlying54→Un54,underlying55→Un55,underlying56→Un56,underlying58→Un58,underlying61→Un61,underlying63→Un63,underlying65→Un65,underlying86→Un86,underlying92→Un92,underlying114→Un114,underlying117→Un117,underlying121→Un121,underlying123→Un123,underlying125→Un125,underlying126→Un126,underlying128→Un128,underlying132→Un132,underlying134→Un134,underlying138→Un138,underlying143→Un143,underlying144→Un144,underlying149→Un149,underlying152→Un152,underlying153→Un153,underlying155→Un155,underlying161→Un161,underlying165→Un165,underlying169→Un169,underlying185→Un185,underlying186→Un186,underlying188→Un188,underlying194→Un194,underlying199→Un199,underlying233→Un233
namespace Go.Proofs.YthkkklphanidjaaGreatDoor
open Go Go.GW
def SameB (p:Prop) (v:Value):Prop:= ∃b,v= .bool b∧(p→b=true)
theorem dnew_x1 (u cl ce op:Int) (h: ¬(1≤cl∧cl≤8)):Sp Tryz.prog 4 [.int .i64 u, .agg #[.int .i64 cl, .int .i64 ce, .int .i64 op]] [] [] (fun v Lo fs=> ∃e,FltV e∧v= .tuple #[.pointer none,e] ∧Lo= [] ∧fs= []):=by
 refine Sp.of (n:=39) ⟨_,Tryz.func4,O,O,O,O⟩ (Nat.le_of_ble_eq_true O) fun Ps As=>Jc (Ja (Jg O (J1 (cs:= [_,_,_]) O O (by decide) fun b3=>Lq (Jd O) (Lq (Jd O) (Je (Jf (Jc (Jc (Ja (Lq (Jh (o':=0) Un23 O ti3 O O) (Lq (Jj Un3 O O Jm O) (Jg O (Jo (KG _ _ _) (.n3 O O O) (by decide) Jx fun _ _ _ q9=>?_)))))))))))))
 obtain ⟨rfl,rfl,rfl⟩:=q9
 refine Lq (KC O) (Lq (Jb O) (Ln O O O (by rw [decide_eq_false h] <;>rfl) (Ln O O O (by rw [decide_eq_false h] <;>rfl) (Ln O O O (by rw [decide_eq_false h] <;>rfl) (Ln O O O (by rw [decide_eq_false h] <;>rfl) (Lq (JH O (by rw [decide_eq_false h] <;>rfl) O) (Lq (Jb O) (Ln O O O O (Ln O O O O ?_)))))))))
 refine Ln O O O O (Ln O O O O (Lq (JH O O O) (Je (Jf (JL [(21,_),(5,_),(4,_),(3,_),(0,_)] (.m5 O O O O O) (JQ O O (Jc (Ja (Lq (Jb O) (Jg O (Jo (fault_e _ _ _ (by decide)) (.n3 O O O) (by decide) Jx fun _ _ _ q9=>?_)))))))))))
 obtain ⟨hv,rfl,rfl⟩:=q9
 refine Lq (Jd O) (Lq (Jd O) (Je (Jf (Jn (Jr ?_)))))
 refine ⟨_,[],[],fun Z w hs=> .tmp O (.tmp O .nil),?_,fun Z w hs=>hs.out (Sd (Sr)) (fun _ h=>h)⟩
 exact ⟨_,hv,O,O,O⟩
theorem dnew_x2 (u cl ce op:Int) (h1:1≤cl∧cl≤8) (h: ¬(1≤ce∧ce≤4096)):Sp Tryz.prog 4 [.int .i64 u, .agg #[.int .i64 cl, .int .i64 ce, .int .i64 op]] [] [] (fun v Lo fs=> ∃e,FltV e∧v= .tuple #[.pointer none,e] ∧Lo= [] ∧fs= []):=by
 refine Sp.of (n:=39) ⟨_,Tryz.func4,O,O,O,O⟩ (Nat.le_of_ble_eq_true O) fun Ps As=>Jc (Ja (Jg O (J1 (cs:= [_,_,_]) O O (by decide) fun b3=>Lq (Jd O) (Lq (Jd O) (Je (Jf (Jc (Jc (Ja (Lq (Jh (o':=0) Un23 O ti3 O O) (Lq (Jj Un3 O O Jm O) (Jg O (Jo (KG _ _ _) (.n3 O O O) (by decide) Jx fun _ _ _ q9=>?_)))))))))))))
 obtain ⟨rfl,rfl,rfl⟩:=q9
 refine Lq (KC O) (Lq (Jb O) (Lg O O O (by rw [decide_eq_true h1] <;>rfl) (Jh (o':=1) Un23 O ti3 O O) (Lg O O O (by rw [decide_eq_true h1] <;>rfl) (Jj Un3 O O Jm O) (Kk O O O (by rw [decide_eq_true h1] <;>rfl) (Jo (KG _ _ _) (.n3 O O O) (by decide) Jx fun _ _ _ q9=>?_)))))
 obtain ⟨rfl,rfl,rfl⟩:=q9
 refine Lg O O O (by rw [decide_eq_true h1] <;>rfl) (KC O) (Lq (JA O (by rw [decide_eq_true h1] <;>rfl) O) (Lq (Jb O) (Ln O O O (by rw [decide_eq_false h] <;>rfl) (Ln O O O (by rw [decide_eq_false h] <;>rfl) (Ln O O O (by rw [decide_eq_false h] <;>rfl) (Ln O O O (by rw [decide_eq_false h] <;>rfl) (Lq (JH O (by rw [decide_eq_false h] <;>rfl) O) (Je (Jf (JL [(21,_),(5,_),(4,_),(3,_),(0,_)] (.m5 O O O O O) ?_))))))))))
 refine JQ O O (Jc (Ja (Lq (Jb O) (Jg O (Jo (fault_e _ _ _ (by decide)) (.n3 O O O) (by decide) Jx fun _ _ _ q9=>?_)))))
 obtain ⟨hv,rfl,rfl⟩:=q9
 refine Lq (Jd O) (Lq (Jd O) (Je (Jf (Jn (Jr ?_)))))
 refine ⟨_,[],[],fun Z w hs=> .tmp O (.tmp O .nil),?_,fun Z w hs=>hs.out (Sd (Sr)) (fun _ h=>h)⟩
 exact ⟨_,hv,O,O,O⟩
theorem dnew_x3 (u cl ce op:Int) (h1:1≤cl∧cl≤8) (h2:1≤ce∧ce≤4096) (h: ¬(1≤op∧op≤1024)):Sp Tryz.prog 4 [.int .i64 u, .agg #[.int .i64 cl, .int .i64 ce, .int .i64 op]] [] [] (fun v Lo fs=> ∃e,FltV e∧v= .tuple #[.pointer none,e] ∧Lo= [] ∧fs= []):=by
 refine Sp.of (n:=39) ⟨_,Tryz.func4,O,O,O,O⟩ (Nat.le_of_ble_eq_true O) fun Ps As=>Jc (Ja (Jg O (J1 (cs:= [_,_,_]) O O (by decide) fun b3=>Lq (Jd O) (Lq (Jd O) (Je (Jf (Jc (Jc (Ja (Lq (Jh (o':=0) Un23 O ti3 O O) (Lq (Jj Un3 O O Jm O) (Jg O (Jo (KG _ _ _) (.n3 O O O) (by decide) Jx fun _ _ _ q9=>?_)))))))))))))
 obtain ⟨rfl,rfl,rfl⟩:=q9
 refine Lq (KC O) (Lq (Jb O) (Lg O O O (by rw [decide_eq_true h1] <;>rfl) (Jh (o':=1) Un23 O ti3 O O) (Lg O O O (by rw [decide_eq_true h1] <;>rfl) (Jj Un3 O O Jm O) (Kk O O O (by rw [decide_eq_true h1] <;>rfl) (Jo (KG _ _ _) (.n3 O O O) (by decide) Jx fun _ _ _ q9=>?_)))))
 obtain ⟨rfl,rfl,rfl⟩:=q9
 refine Lg O O O (by rw [decide_eq_true h1] <;>rfl) (KC O) (Lq (JA O (by rw [decide_eq_true h1] <;>rfl) O) (Lq (Jb O) (Lg O O O (by rw [decide_eq_true h2] <;>rfl) (Jh (o':=2) Un23 O ti3 O O) (Lg O O O (by rw [decide_eq_true h2] <;>rfl) (Jj Un3 O O Jm O) (Kk O O O (by rw [decide_eq_true h2] <;>rfl) (Jo (KG _ _ _) (.n3 O O O) (by decide) Jx fun _ _ _ q9=>?_))))))
 obtain ⟨rfl,rfl,rfl⟩:=q9
 refine Lg O O O (by rw [decide_eq_true h2] <;>rfl) (KC O) (Lq (JA O (by rw [decide_eq_true h2] <;>rfl) O) (Je (Jf (JL [(21,_),(5,_),(4,_),(3,_),(0,_)] (.m5 O O O O O) (JQ O (by rw [decide_eq_false h] <;>rfl) (Jc (Ja (Lq (Jb O) (Jg O (Jo (fault_e _ _ _ (by decide)) (.n3 O O O) (by decide) Jx fun _ _ _ q9=>?_))))))))))
 obtain ⟨hv,rfl,rfl⟩:=q9
 refine Lq (Jd O) (Lq (Jd O) (Je (Jf (Jn (Jr ?_)))))
 refine ⟨_,[],[],fun Z w hs=> .tmp O (.tmp O .nil),?_,fun Z w hs=>hs.out (Sd (Sr)) (fun _ h=>h)⟩
 exact ⟨_,hv,O,O,O⟩
theorem dnew_x4 (u cl ce op:Int) (h1:1≤cl∧cl≤8) (h2:1≤ce∧ce≤4096) (h3:1≤op∧op≤1024) (h: ¬(1≤u∧u≤cl)):Sp Tryz.prog 4 [.int .i64 u, .agg #[.int .i64 cl, .int .i64 ce, .int .i64 op]] [] [] (fun v Lo fs=> ∃e,FltV e∧v= .tuple #[.pointer none,e] ∧Lo= [] ∧fs= []):=by
 refine Sp.of (n:=39) ⟨_,Tryz.func4,O,O,O,O⟩ (Nat.le_of_ble_eq_true O) fun Ps As=>Jc (Ja (Jg O (J1 (cs:= [_,_,_]) O O (by decide) fun b3=>Lq (Jd O) (Lq (Jd O) (Je (Jf (Jc (Jc (Ja (Lq (Jh (o':=0) Un23 O ti3 O O) (Lq (Jj Un3 O O Jm O) (Jg O (Jo (KG _ _ _) (.n3 O O O) (by decide) Jx fun _ _ _ q9=>?_)))))))))))))
 obtain ⟨rfl,rfl,rfl⟩:=q9
 refine Lq (KC O) (Lq (Jb O) (Lg O O O (by rw [decide_eq_true h1] <;>rfl) (Jh (o':=1) Un23 O ti3 O O) (Lg O O O (by rw [decide_eq_true h1] <;>rfl) (Jj Un3 O O Jm O) (Kk O O O (by rw [decide_eq_true h1] <;>rfl) (Jo (KG _ _ _) (.n3 O O O) (by decide) Jx fun _ _ _ q9=>?_)))))
 obtain ⟨rfl,rfl,rfl⟩:=q9
 refine Lg O O O (by rw [decide_eq_true h1] <;>rfl) (KC O) (Lq (JA O (by rw [decide_eq_true h1] <;>rfl) O) (Lq (Jb O) (Lg O O O (by rw [decide_eq_true h2] <;>rfl) (Jh (o':=2) Un23 O ti3 O O) (Lg O O O (by rw [decide_eq_true h2] <;>rfl) (Jj Un3 O O Jm O) (Kk O O O (by rw [decide_eq_true h2] <;>rfl) (Jo (KG _ _ _) (.n3 O O O) (by decide) Jx fun _ _ _ q9=>?_))))))
 obtain ⟨rfl,rfl,rfl⟩:=q9
 refine Lg O O O (by rw [decide_eq_true h2] <;>rfl) (KC O) (Lq (JA O (by rw [decide_eq_true h2] <;>rfl) O) (Je (Jf (JL [(21,_),(5,_),(4,_),(3,_),(0,_)] (.m5 O O O O O) (Jz O (by rw [decide_eq_true h3] <;>rfl) (Jp (Jf (Jc (Jc (Ja (Lq (Jb O) (Lq (Jh (o':=0) Un23 O ti3 O O) (Lq (Jj Un3 O O Jm O) (Jg O (Jo (KG _ _ _) (.n3 O O O) (by decide) Jx fun _ _ _ q9=>?_)))))))))))))))
 obtain ⟨rfl,rfl,rfl⟩:=q9
 refine Lq (KC O) (Je (Jf (JQ O (by rw [decide_eq_false h] <;>rfl) (Jc (Ja (Lq (Jb O) (Jg O (Jo (fault_e _ _ _ (by decide)) (.n3 O O O) (by decide) Jx fun _ _ _ q9=>?_))))))))
 obtain ⟨hv,rfl,rfl⟩:=q9
 refine Lq (Jd O) (Lq (Jd O) (Je (Jf (Jn (Jr ?_)))))
 refine ⟨_,[],[],fun Z w hs=> .tmp O (.tmp O .nil),?_,fun Z w hs=>hs.out (Sd (Sr)) (fun _ h=>h)⟩
 exact ⟨_,hv,O,O,O⟩
theorem Jal {P:Program} {l:Fr} {Ps:List Part} {As:List Fact} {dd:Option Tmp} {ty:TypeId} {pos:String} {aft:Array Edge} {g:Option (Nat×Bool)} {t t2 E:TypeId} {x:Operand} {A:Option Addr} {m c:Nat} {r:Bool} (hu:P.underlying t=some (.slice E)) (hx:evs l x=some (.slice A m c)) (hr:r=A.isNone):QR P l Ps As ⟨dd, .binOp .eql t x (.const (.slice none 0 0)) t2,ty,pos,aft,g⟩ (.bool r):=fun Z w ρ hs hρ=>by
 subst hr
 have hy:ρ (.const (.slice none 0 0))= .slice none 0 0:=hρ _ _ rfl
 have h0:binOp .eql t (.slice A m c) (.slice none 0 0)=(do pure (.bool (←Op.equalIn (9999+1) t (.slice A m c) (.slice none 0 0)))):=rfl
 have h1:eqGuard .eql t x (.const (.slice none 0 0)) (.slice A m c) (.slice none 0 0)=pure ():=by unfold eqGuard;rfl
 have h2:(Op.equalIn (9999+1) t (.slice A m c) (.slice none 0 0)).run P w= .ok A.isNone w:=by
  unfold Op.equalIn
  simp only [Sem.run_bind,run_underlying hu,Result.andThen_ok]
  cases A<;>rfl
 simp only [execOp,hρ _ _ hx,hy,h1,h0,Sem.run_bind,h2,Result.andThen_ok,Sem.run_pure]
theorem bs_id0 (w:World):(Instr.buildSlice 45 0 #[]).run Tryz.prog w= .ok (.slice (some ⟨w.heap.size,0,none⟩) 0 0) (w.alloc (JD [] 34)):=by kernel_rfl
theorem reps_id: ∀ {xs:List Id2} {css:List (List Value)} {Z:Nat→Prop} {w:World},Reps (idD.rep Z w) xs css→css.flatten=Kb idC xs
 | _,_,_,_, .nil=>rfl
 | _,_,_,_, .cons h hr=>by
  have ih:=reps_id hr
  rw [List.flatten_cons,ih,show _=idC _ from h];rfl
theorem clone_n (c:Nat) (xs:List Id2) (h0:xs= []):Sp Tryz.prog 94 [.slice none xs.length c] [] [RdF idD none c xs] (fun v Lo fs=> ∃p,Row 34 2 v xs.length (Kb idC xs) p∧Lo= [p] ∧fs= []):=by
 refine Sp.of (n:=8) ⟨_,Tryz.func94,O,O,O,O⟩ (Nat.le_of_ble_eq_true O) fun Ps As=>Jc (Ja (Lq (Jd O) (Je (Jf (Jc (Jc (Ja (Lq (Jb O) (Lq (Jal Un45 O O) (Je (Jf (JQ O O (Jc (Ja (Lq (Jd O) (Je (Jf (Jn (Jr ?_)))))))))))))))))))
 subst h0
 refine ⟨_,[[]],[],fun Z w hs=> .tmp O .nil,?_,fun Z w hs=>⟨Z,(hs.permParts (Ps':= [] ::Ps) (by simp))⟩⟩
 exact ⟨[],Row.nil _ _,O,O⟩
theorem clone_a (a:Addr) (c:Nat) (xs:List Id2) (hl:xs.length≤1000000):Sp Tryz.prog 94 [.slice (some a) xs.length c] [] [RdF idD (some a) c xs] (fun v Lo fs=> ∃p,Row 34 2 v xs.length (Kb idC xs) p∧Lo= [p] ∧fs= []):=by
 refine Sp.of (n:=8) ⟨_,Tryz.func94,O,O,O,O⟩ (Nat.le_of_ble_eq_true O) fun Ps As=>Jc (Ja (Lq (Jd O) (Je (Jf (Jc (Jc (Ja (Lq (Jb O) (Lq (Jal Un45 O O) (Je (Jf (Jz O O (Jp (Jf (Jc (Ja (Jg O (Yx (cs:= []) .nil (fun w=>bs_id0 w) (by decide) fun b5=>Lq (Jb O) (Jg O (YE (e:=idD) (ys:=xs) Un45 JY O (by decide) O O (k:=0) (cs:= []) (p:= [(b5,JD [] 34)]) ⟨O, .inr ⟨b5,0,[],O,O,O,Nat.le_refl _,Nat.zero_le _⟩⟩ Mm0 (by omega) (by unfold maxLen;omega) (by decide) (List.Perm.refl _) fun v7 p7 cs7 hr7=> ?_))))))))))))))))))))
 refine Jad (β:=Unit) (Fs:=fun _=> []) (p:=fun _=>cs7.flatten=Kb idC xs) (A:=RepsF idD xs cs7) Mm0 (fun Z w h=>⟨(),reps_id h,fun _ h=>(by cases h)⟩) fun _ he7=> ?_
 rw [he7,List.nil_append,Nat.zero_add] at hr7
 refine Lq (Jd O) (Je (Jf (Jn ?_)))
 refine ⟨_,[_],[],fun Z w hs=> .tmp O .nil,?_,fun Z w hs=>hs.out (Sk (Sr)) Tt1⟩
 exact ⟨p7,hr7,O,O⟩
theorem eq121 (x0:ByteArray) (x1:Int) (y0:ByteArray) (y1:Int):EqT Tryz.prog 121 [.string x0, .int .i64 x1].toArray [.string y0, .int .i64 y1].toArray ((x0==y0) && ((x1==y1) && true)):=EqD.eqT (D:=2) (EqD.struct (D:=0) (l:= [(9,0),(3,1)]) (by kernel_rfl) (by kernel_rfl) (by kernel_rfl) (.str Un9 rfl rfl (.int Un3 rfl rfl .nil))) (by decide) (by kernel_rfl)
theorem same_b (A B:Option Addr) (c d:Nat) (xs ys:List Rg) (hl:xs.length≤8796093022208) (hly:ys.length≤8796093022208):Sp Tryz.prog 104 [.slice A xs.length c, .slice B ys.length d] [] [RdF rgD A c xs,RdF rgD B d ys] (fun v Lo fs=>SameB (xs=ys) v∧Lo= [] ∧fs= []):=by
 refine Sp.of (n:=41) ⟨_,Tryz.func104,O,O,O,O⟩ (Nat.le_of_ble_eq_true O) fun Ps As=>Jc (Ja (Lq (Jd O) (Je (Jf (Jc (Jc (Ja (Lq (Jb O) (Lq (J7 Un38 O) (Lq (Jb O) (Lq (J7 Un38 O) (Lq (Kp O O) (Je (Jf ?_))))))))))))))
 refine Jy O (fun h10=> ?_) (fun h10=> ?_)
 ·refine Jc (Ja (Lq (Jd O) (Je (Jf (Jn (Jr ?_))))))
  refine ⟨_,[],[],fun Z w hs=> .tmp O .nil,?_,fun Z w hs=>hs.out (Sr) (fun _ h=>h)⟩
  refine ⟨⟨_,O,fun e=> ?_⟩,O,O⟩
  subst e
  simp at h10
 ·have hll:xs.length=ys.length:=by have h:=h10;simp at h;omega
  refine Jp (Jf (Jc (Jc (Ja (Lq (Jd O) (Je (Jf (JO ?_))))))))
  refine Ki (α:=Nat) (fun k=>xs.length-k)
   (fun k=> [(0, .slice A xs.length c),(1, .slice B ys.length d),(5, .int .i64 k)])
   (fun k=>Ps)
   (fun k=>(RdF rgD A c xs::RdF rgD B d ys::As))
   (fun k=>k≤xs.length)
   0 ?_ (.m3 rfl rfl rfl) (Sr) (fun _ h=>h) ?_
  ·exact Nat.zero_le _
  ·rintro k hI
   refine Jc (Jc (Ja (Lq (Jb O) (Lq (Jb O) (Lq (J7 Un38 O) (Lq (Ku O O) (Je (Jf (Jy O (fun h14=> ?_) (fun h14=> ?_))))))))))
   ·refine Jp (Jf (Jc (JO (Jc ?_))))
    have hk:k<xs.length:=by have h:=h14;simp only [decide_eq_true_eq] at h;omega
    have hk2:k<ys.length:=by omega
    refine Kh (k:=k) Mm0 (List.getElem?_eq_getElem hk) (rg_open _) fun b1 q1 y1 e1=> ?_
    cases e1
    refine Kh (k:=k) Mm2 (List.getElem?_eq_getElem hk2) (rg_open _) fun b2 q2 y2 e2=> ?_
    cases e2
    refine JI _ _ [] (.c 0 0 (.c 1 0 (.c 2 0 (.c 3 0 (.c 4 0 (.c 5 0 (.c 6 0 (.c 7 0 (.c 8 0 (.c 9 0 (.c 10 0 (.c 11 0 (.c 12 0 (.c 13 0 (.c 14 0 (.c 15 0 (.c 16 0 (.c 17 0 (.c 18 0 (.c 19 0 (.c 20 0 (.c 21 0 (.c 22 0 (.c 23 0 .nil)))))))))))))))))))))))) mixed (fun _ _ _ _ h=>h) (Sr) (fun _ h=>h) (by kernel_rfl) (by decide) fun ws Z0=>Qe O (Jb O) (Qe O (Jb O) (Qe O (Kc Un38 KB O O (by omega) (by omega)) (Qe O (Jh (o':=_+0) Un143 O ti3 O O) (Qe O (Ks (j:=0) Un3 O O Mm1 O O) (Qe O (Jb O) (Qe O (Jb O) (Qe O (Kc Un38 KB O O (by omega) (by omega)) (Qe O (Jh (o':=_+0) Un143 O ti3 O O) ?_))))))))
    refine Qe O (Ks (j:=0) Un3 O O Mm0 O O) (Qe O (Kp O O) (Qe O (Jb O) (ZI (t:=28) O (fun g28=> ?_) (fun g28=> ?_))))
    ·refine KR O O O O g28 (by decide) (KR O O O O g28 (by decide) (KR O O O O g28 (by decide) (KR O O O O g28 (by decide) (KR O O O O g28 (by decide) (KR O O O O g28 (by decide) (KR O O O O g28 (by decide) (KR O O O O g28 (by decide) (KR O O O O g28 (by decide) (KR O O O O g28 (by decide) ?_)))))))))
     refine KR O O O O g28 (by decide) (Qe O (JH O g28 O) (JJ (JK (Jf (JQ O O (Jc (Ja (Lq (Jd O) (Je (Jf (Jn (JM (Jr (Jr (JM (Jr ?_))))))))))))))))
     refine ⟨_,[],[],fun Z w hs=> .tmp O .nil,?_,fun Z w hs=>hs.out (Sr) Tt3⟩
     refine ⟨⟨_,O,fun e=> ?_⟩,O,O⟩
     subst e
     simp_all
    ·refine Kl O O O O g28 (Jb O) (by decide) (Kl O O O O g28 (Jb O) (by decide) (Kl O O O O g28 (Kc Un38 KB O O (by omega) (by omega)) (by decide) (Kl O O O O g28 (Jh (o':=_+1) Un143 O ti3 O O) (by decide) (Kl O O O O g28 (Ks (j:=1) Un3 O O Mm1 O O) (by decide) (Kl O O O O g28 (Jb O) (by decide) (Kl O O O O g28 (Jb O) (by decide) (Kl O O O O g28 (Kc Un38 KB O O (by omega) (by omega)) (by decide) (Kl O O O O g28 (Jh (o':=_+1) Un143 O ti3 O O) (by decide) (Kl O O O O g28 (Ks (j:=1) Un3 O O Mm0 O O) (by decide) ?_)))))))))
     refine Kl O O O O g28 (Kp O O) (by decide) (Qe O (JA O g28 O) (JJ (JK (Jf (Jy O (fun h40=> ?_) (fun h40=> ?_))))))
     ·refine Jc (Ja (Lq (Jd O) (Je (Jf (Jn (JM (Jr (Jr (JM (Jr ?_))))))))))
      refine ⟨_,[],[],fun Z w hs=> .tmp O .nil,?_,fun Z w hs=>hs.out (Sr) Tt3⟩
      refine ⟨⟨_,O,fun e=> ?_⟩,O,O⟩
      subst e
      simp_all
     ·refine Jp (J9 (Jf (Ja (Lq (Jb O) (Lq (JZ O O (wr64 (by omega)) (c:=((k+1:Nat):Int))) (Lq (Jd O) (Je (Ko ?_))))))))
      refine ⟨k+1,?_,(.m3 O O O),(Sr),Tt3⟩
      exact ⟨by omega,by omega⟩
   ·refine Kr (JR (JR (Kg (Jf (Jc (Ja (Lq (Jd O) (Je (Jf (Jn ?_))))))))))
    refine ⟨_,[],[],fun Z w hs=> .tmp O .nil,?_,fun Z w hs=>hs.out (Sr) (fun _ h=>h)⟩
    exact ⟨⟨_,O,fun _=>O⟩,O,O⟩
theorem sameIDs_b (A B:Option Addr) (c d:Nat) (xs ys:List Id2) (hl:xs.length≤8796093022208) (hly:ys.length≤8796093022208):Sp Tryz.prog 35 [.slice A xs.length c, .slice B ys.length d] [] [RdF idD A c xs,RdF idD B d ys] (fun v Lo fs=>SameB (xs=ys) v∧Lo= [] ∧fs= []):=by
 refine Sp.of (n:=26) ⟨_,Tryz.func35,O,O,O,O⟩ (Nat.le_of_ble_eq_true O) fun Ps As=>Jc (Ja (Lq (Jd O) (Je (Jf (Jc (Jc (Ja (Lq (Jb O) (Lq (J7 Un45 O) (Lq (Jb O) (Lq (J7 Un45 O) (Lq (Kp O O) (Je (Jf ?_))))))))))))))
 refine Jy O (fun h10=> ?_) (fun h10=> ?_)
 ·refine Jc (Ja (Lq (Jd O) (Je (Jf (Jn (Jr ?_))))))
  refine ⟨_,[],[],fun Z w hs=> .tmp O .nil,?_,fun Z w hs=>hs.out (Sr) (fun _ h=>h)⟩
  refine ⟨⟨_,O,fun e=> ?_⟩,O,O⟩
  subst e
  simp at h10
 ·have hll:xs.length=ys.length:=by have h:=h10;simp at h;omega
  refine Jp (Jf (Jc (Jc (Ja (Lq (Jd O) (Je (Jf (JO ?_))))))))
  refine Ki (α:=Nat) (fun k=>xs.length-k)
   (fun k=> [(0, .slice A xs.length c),(1, .slice B ys.length d),(5, .int .i64 k)])
   (fun k=>Ps)
   (fun k=>(RdF idD A c xs::RdF idD B d ys::As))
   (fun k=>k≤xs.length)
   0 ?_ (.m3 rfl rfl rfl) (Sr) (fun _ h=>h) ?_
  ·exact Nat.zero_le _
  ·rintro k hI
   refine Jc (Jc (Ja (Lq (Jb O) (Lq (Jb O) (Lq (J7 Un45 O) (Lq (Ku O O) (Je (Jf (Jy O (fun h14=> ?_) (fun h14=> ?_))))))))))
   ·refine Jp (Jf (Jc (JO (Jc ?_))))
    have hk:k<xs.length:=by have h:=h14;simp only [decide_eq_true_eq] at h;omega
    have hk2:k<ys.length:=by omega
    refine Kh (k:=k) Mm0 (List.getElem?_eq_getElem hk) (id_open _) fun b1 q1 y1 e1=> ?_
    cases e1
    refine Kh (k:=k) Mm2 (List.getElem?_eq_getElem hk2) (id_open _) fun b2 q2 y2 e2=> ?_
    cases e2
    refine JI _ _ [] (.c 0 0 (.c 1 0 (.c 2 0 (.c 3 0 (.c 4 0 (.c 5 0 (.c 6 0 (.c 7 0 (.c 8 0 .nil))))))))) mixed (fun _ _ _ _ h=>h) (Sr) (fun _ h=>h) (by kernel_rfl) (by decide) fun ws Z0=>Qe O (Jb O) (Qe O (Jb O) (Qe O (Kc Un45 JY O O (by omega) (by omega)) (Qe O (Kq (k:=0) (vs:= [_,_]) Un34 O JY O Mm1 O O O) (Qe O (Jb O) (Qe O (Jb O) (Qe O (Kc Un45 JY O O (by omega) (by omega)) (Qe O (Kq (k:=0) (vs:= [_,_]) Un34 O JY O Mm0 O O O) (Qe O (Ya O O (eq34 _ _ _ _)) ?_))))))))
    refine JJ (JK (Jf (Jy O (fun h25=> ?_) (fun h25=> ?_))))
    ·refine Jc (Ja (Lq (Jd O) (Je (Jf (Jn (JM (Jr (Jr (JM (Jr ?_))))))))))
     refine ⟨_,[],[],fun Z w hs=> .tmp O .nil,?_,fun Z w hs=>hs.out (Sr) Tt3⟩
     refine ⟨⟨_,O,fun e=> ?_⟩,O,O⟩
     subst e
     simp at h25
    ·refine Jp (J9 (Jf (Ja (Lq (Jb O) (Lq (JZ O O (wr64 (by omega)) (c:=((k+1:Nat):Int))) (Lq (Jd O) (Je (Ko ?_))))))))
     refine ⟨k+1,?_,(.m3 O O O),(Sr),Tt3⟩
     exact ⟨by omega,by omega⟩
   ·refine Kr (JR (JR (Kg (Jf (Jc (Ja (Lq (Jd O) (Je (Jf (Jn ?_))))))))))
    refine ⟨_,[],[],fun Z w hs=> .tmp O .nil,?_,fun Z w hs=>hs.out (Sr) (fun _ h=>h)⟩
    exact ⟨⟨_,O,fun _=>O⟩,O,O⟩
theorem sameRuns_b (A B:Option Addr) (c d:Nat) (xs ys:List Rn) (hl:xs.length≤8796093022208) (hly:ys.length≤8796093022208):Sp Tryz.prog 33 [.slice A xs.length c, .slice B ys.length d] [] [RdF runD A c xs,RdF runD B d ys] (fun v Lo fs=>SameB (xs=ys) v∧Lo= [] ∧fs= []):=by
 refine Sp.of (n:=26) ⟨_,Tryz.func33,O,O,O,O⟩ (Nat.le_of_ble_eq_true O) fun Ps As=>Jc (Ja (Lq (Jd O) (Je (Jf (Jc (Jc (Ja (Lq (Jb O) (Lq (J7 Un43 O) (Lq (Jb O) (Lq (J7 Un43 O) (Lq (Kp O O) (Je (Jf ?_))))))))))))))
 refine Jy O (fun h10=> ?_) (fun h10=> ?_)
 ·refine Jc (Ja (Lq (Jd O) (Je (Jf (Jn (Jr ?_))))))
  refine ⟨_,[],[],fun Z w hs=> .tmp O .nil,?_,fun Z w hs=>hs.out (Sr) (fun _ h=>h)⟩
  refine ⟨⟨_,O,fun e=> ?_⟩,O,O⟩
  subst e
  simp at h10
 ·have hll:xs.length=ys.length:=by have h:=h10;simp at h;omega
  refine Jp (Jf (Jc (Jc (Ja (Lq (Jd O) (Je (Jf (JO ?_))))))))
  refine Ki (α:=Nat) (fun k=>xs.length-k)
   (fun k=> [(0, .slice A xs.length c),(1, .slice B ys.length d),(5, .int .i64 k)])
   (fun k=>Ps)
   (fun k=>(RdF runD A c xs::RdF runD B d ys::As))
   (fun k=>k≤xs.length)
   0 ?_ (.m3 rfl rfl rfl) (Sr) (fun _ h=>h) ?_
  ·exact Nat.zero_le _
  ·rintro k hI
   refine Jc (Jc (Ja (Lq (Jb O) (Lq (Jb O) (Lq (J7 Un43 O) (Lq (Ku O O) (Je (Jf (Jy O (fun h14=> ?_) (fun h14=> ?_))))))))))
   ·refine Jp (Jf (Jc (JO (Jc ?_))))
    have hk:k<xs.length:=by have h:=h14;simp only [decide_eq_true_eq] at h;omega
    have hk2:k<ys.length:=by omega
    refine Kh (k:=k) Mm0 (List.getElem?_eq_getElem hk) (Ep _) fun b1 q1 y1 e1=> ?_
    cases e1
    refine Kh (k:=k) Mm2 (List.getElem?_eq_getElem hk2) (Ep _) fun b2 q2 y2 e2=> ?_
    cases e2
    refine JI _ _ [] (.c 0 0 (.c 1 0 (.c 2 0 (.c 3 0 (.c 4 0 (.c 5 0 (.c 6 0 (.c 7 0 (.c 8 0 .nil))))))))) mixed (fun _ _ _ _ h=>h) (Sr) (fun _ h=>h) (by kernel_rfl) (by decide) fun ws Z0=>Qe O (Jb O) (Qe O (Jb O) (Qe O (Kc Un43 GA O O (by omega) (by omega)) (Qe O (Kq (k:=0) (vs:= [_,_]) Un121 O GA O Mm1 O O O) (Qe O (Jb O) (Qe O (Jb O) (Qe O (Kc Un43 GA O O (by omega) (by omega)) (Qe O (Kq (k:=0) (vs:= [_,_]) Un121 O GA O Mm0 O O O) (Qe O (Ya O O (eq121 _ _ _ _)) ?_))))))))
    refine JJ (JK (Jf (Jy O (fun h25=> ?_) (fun h25=> ?_))))
    ·refine Jc (Ja (Lq (Jd O) (Je (Jf (Jn (JM (Jr (Jr (JM (Jr ?_))))))))))
     refine ⟨_,[],[],fun Z w hs=> .tmp O .nil,?_,fun Z w hs=>hs.out (Sr) Tt3⟩
     refine ⟨⟨_,O,fun e=> ?_⟩,O,O⟩
     subst e
     simp [str_beq.2 rfl] at h25
    ·refine Jp (J9 (Jf (Ja (Lq (Jb O) (Lq (JZ O O (wr64 (by omega)) (c:=((k+1:Nat):Int))) (Lq (Jd O) (Je (Ko ?_))))))))
     refine ⟨k+1,?_,(.m3 O O O),(Sr),Tt3⟩
     exact ⟨by omega,by omega⟩
   ·refine Kr (JR (JR (Kg (Jf (Jc (Ja (Lq (Jd O) (Je (Jf (Jn ?_))))))))))
    refine ⟨_,[],[],fun Z w hs=> .tmp O .nil,?_,fun Z w hs=>hs.out (Sr) (fun _ h=>h)⟩
    exact ⟨⟨_,O,fun _=>O⟩,O,O⟩
theorem equal_b (o o2:GOp) (A B:Option Addr) (c d:Nat) (hl:o.rs.length≤8796093022208) (hl2:o2.rs.length≤8796093022208):Sp Tryz.prog 73 [opV o A c,opV o2 B d] [] [RdF rgD A c o.rs,RdF rgD B d o2.rs] (fun v Lo fs=>SameB (o=o2) v∧Lo= [] ∧fs= []):=by
 refine Sp.of (n:=82) ⟨_,Tryz.func73,O,O,O,O⟩ (Nat.le_of_ble_eq_true O) fun Ps As=>Jc (Ja (Jg O (J1 (cs:= [_,_,_,_,_,_,_,_,_]) O O (by decide) fun b2=>Jg O (J1 (cs:= [_,_,_,_,_,_,_,_,_]) O O (by decide) fun b3=>Lq (Jd O) (Je (Jf (Jc (Ja (Lq (Jh (o':=5) Un40 O Yd O O) (Lq (Jj Un38 O O (Ji (Jm)) O) (Lq (Jh (o':=5) Un40 O Yd O O) (Lq (Jj Un38 O O Jm O) ?_))))))))))))
 refine Jg O (Jo (same_b A B c d o.rs o2.rs hl hl2) (.n2 O O) (by decide) (Jl Mm0 (Jl Mm1 Jx)) fun _ _ _ q9=>?_)
 obtain ⟨⟨bs,rfl,hbs⟩,rfl,rfl⟩:=q9
 refine Lq (Jd O) (Je (Jf (Jc (Ja (Lq (Jb O) (Lq (Jb O) (JU (t:=12) O (fun g12=> ?_) (fun g12=> ?_))))))))
 ·refine Lg O O O g12 (Jh (o':=0) Un40 O KI O O) (Lg O O O g12 (Jh (o':=0) Un37 O JY O O) (Lg O O O g12 (KL (o':=0) Un34 ti3 O O (by decide) (by decide) O) (Lg O O O g12 (Jj Un3 O O (Ji (Jm)) O) (Lg O O O g12 (Jh (o':=0) Un40 O KI O O) (Lg O O O g12 (Jh (o':=0) Un37 O JY O O) (Lg O O O g12 (KL (o':=0) Un34 ti3 O O (by decide) (by decide) O) (Lg O O O g12 (Jj Un3 O O Jm O) (Lg O O O g12 (Ka O O) (Lq (JH O g12 O) ?_)))))))))
  refine Lq (Jb O) (JU (t:=23) O (fun g23=> ?_) (fun g23=> ?_))
  ·refine Lg O O O g23 (Jh (o':=0) Un40 O KI O O) (Lg O O O g23 (Jh (o':=0) Un37 O JY O O) (Lg O O O g23 (KL (o':=1) Un34 ti3 O O (by decide) (by decide) O) (Lg O O O g23 (Jj Un3 O O (Ji (Jm)) O) (Lg O O O g23 (Jh (o':=0) Un40 O KI O O) (Lg O O O g23 (Jh (o':=0) Un37 O JY O O) (Lg O O O g23 (KL (o':=1) Un34 ti3 O O (by decide) (by decide) O) (Lg O O O g23 (Jj Un3 O O Jm O) (Lg O O O g23 (Ka O O) (Lq (JH O g23 O) ?_)))))))))
   refine Lq (Jb O) (JU (t:=34) O (fun g34=> ?_) (fun g34=> ?_))
   ·refine Lg O O O g34 (Jh (o':=0) Un40 O KI O O) (Lg O O O g34 (Jh (o':=2) Un37 O Yu O O) (Lg O O O g34 (Jj Un35 O O (Ji (Jm)) O) (Lg O O O g34 (Jh (o':=0) Un40 O KI O O) (Lg O O O g34 (Jh (o':=2) Un37 O Yu O O) (Lg O O O g34 (Jj Un35 O O Jm O) (Lg O O O g34 (Ka O O) (Lq (JH O g34 O) (Lq (Jb O) (JU (t:=43) O (fun g43=> ?_) (fun g43=> ?_))))))))))
    ·refine Lg O O O g43 (Jh (o':=3) Un40 O ti3 O O) (Lg O O O g43 (Jj Un3 O O (Ji (Jm)) O) (Lg O O O g43 (Jh (o':=3) Un40 O ti3 O O) (Lg O O O g43 (Jj Un3 O O Jm O) (Lg O O O g43 (Ka O O) (Lq (JH O g43 O) (Lq (Jb O) (JU (t:=50) O (fun g50=> ?_) (fun g50=> ?_))))))))
     ·refine Lg O O O g50 (Jh (o':=4) Un40 O ti9 O O) (Lg O O O g50 (Jj Un9 O O (Ji (Jm)) O) (Lg O O O g50 (Jh (o':=4) Un40 O ti9 O O) (Lg O O O g50 (Jj Un9 O O Jm O) (Lg O O O g50 (ET O O) (Lq (JH O g50 O) (Lq (Jb O) (JU (t:=57) O (fun g57=> ?_) (fun g57=> ?_))))))))
      ·refine Lg O O O g57 (Jh (o':=6) Un40 O JY O O) (Lg O O O g57 (KL (o':=6) Un34 ti3 O O (by decide) (by decide) O) (Lg O O O g57 (Jj Un3 O O (Ji (Jm)) O) (Lg O O O g57 (Jh (o':=6) Un40 O JY O O) (Lg O O O g57 (KL (o':=6) Un34 ti3 O O (by decide) (by decide) O) (Lg O O O g57 (Jj Un3 O O Jm O) (Lg O O O g57 (Ka O O) (Lq (JH O g57 O) (Lq (Jb O) (JU (t:=66) O (fun g66=> ?_) (fun g66=> ?_))))))))))
       ·refine Lg O O O g66 (Jh (o':=6) Un40 O JY O O) (Lg O O O g66 (KL (o':=7) Un34 ti3 O O (by decide) (by decide) O) (Lg O O O g66 (Jj Un3 O O (Ji (Jm)) O) (Lg O O O g66 (Jh (o':=6) Un40 O JY O O) (Lg O O O g66 (KL (o':=7) Un34 ti3 O O (by decide) (by decide) O) (Lg O O O g66 (Jj Un3 O O Jm O) (Lg O O O g66 (Ka O O) (Lq (JH O g66 O) (Lq (Jb O) (JU (t:=75) O (fun g75=> ?_) (fun g75=> ?_))))))))))
        ·refine Lg O O O g75 (Jh (o':=8) Un40 O ti4 O O) (Lg O O O g75 (Jj Un4 O O (Ji (Jm)) O) (Lg O O O g75 (Jh (o':=8) Un40 O ti4 O O) (Lg O O O g75 (Jj Un4 O O Jm O) (Lg O O O g75 (q_beql' Un4 O O) (Lq (JH O g75 O) (Lq (Jd O) (Je (Jf (Jn ?_)))))))))
         refine ⟨_,[],[],fun Z w hs=> .tmp O .nil,?_,fun Z w hs=>hs.out (Sd2 (Sr)) (fun _ h=>h)⟩
         refine ⟨⟨_,O,fun e=> ?_⟩,O,O⟩
         subst e
         have hbs2:=hbs rfl
         first | (simp_all [str_beq.2 rfl];done) | simp_all
        ·refine Ln O O O g75 (Ln O O O g75 (Ln O O O g75 (Ln O O O g75 (Ln O O O g75 (Lq (JA O g75 O) (Lq (Jd O) (Je (Jf (Jn ?_)))))))))
         refine ⟨_,[],[],fun Z w hs=> .tmp O .nil,?_,fun Z w hs=>hs.out (Sd2 (Sr)) (fun _ h=>h)⟩
         refine ⟨⟨_,O,fun e=> ?_⟩,O,O⟩
         subst e
         have hbs2:=hbs rfl
         first | (simp_all [str_beq.2 rfl];done) | simp_all
       ·refine Ln O O O g66 (Ln O O O g66 (Ln O O O g66 (Ln O O O g66 (Ln O O O g66 (Ln O O O g66 (Ln O O O g66 (Lq (JA O g66 O) (Lq (Jb O) (Ln O O O O ?_)))))))))
        refine Ln O O O O (Ln O O O O (Ln O O O O (Ln O O O O (Lq (JA O O O) (Lq (Jd O) (Je (Jf (Jn ?_))))))))
        refine ⟨_,[],[],fun Z w hs=> .tmp O .nil,?_,fun Z w hs=>hs.out (Sd2 (Sr)) (fun _ h=>h)⟩
        refine ⟨⟨_,O,fun e=> ?_⟩,O,O⟩
        subst e
        have hbs2:=hbs rfl
        first | (simp_all [str_beq.2 rfl];done) | simp_all
      ·refine Ln O O O g57 (Ln O O O g57 (Ln O O O g57 (Ln O O O g57 (Ln O O O g57 (Ln O O O g57 (Ln O O O g57 (Lq (JA O g57 O) (Lq (Jb O) (Ln O O O O ?_)))))))))
       refine Ln O O O O (Ln O O O O (Ln O O O O (Ln O O O O (Ln O O O O (Ln O O O O (Lq (JA O O O) (Lq (Jb O) (Ln O O O O (Ln O O O O ?_)))))))))
       refine Ln O O O O (Ln O O O O (Ln O O O O (Lq (JA O O O) (Lq (Jd O) (Je (Jf (Jn ?_)))))))
       refine ⟨_,[],[],fun Z w hs=> .tmp O .nil,?_,fun Z w hs=>hs.out (Sd2 (Sr)) (fun _ h=>h)⟩
       refine ⟨⟨_,O,fun e=> ?_⟩,O,O⟩
       subst e
       have hbs2:=hbs rfl
       first | (simp_all [str_beq.2 rfl];done) | simp_all
     ·refine Ln O O O g50 (Ln O O O g50 (Ln O O O g50 (Ln O O O g50 (Ln O O O g50 (Lq (JA O g50 O) (Lq (Jb O) (Ln O O O O (Ln O O O O (Ln O O O O ?_)))))))))
      refine Ln O O O O (Ln O O O O (Ln O O O O (Ln O O O O (Lq (JA O O O) (Lq (Jb O) (Ln O O O O (Ln O O O O (Ln O O O O (Ln O O O O ?_)))))))))
      refine Ln O O O O (Ln O O O O (Ln O O O O (Lq (JA O O O) (Lq (Jb O) (Ln O O O O (Ln O O O O (Ln O O O O (Ln O O O O (Ln O O O O ?_)))))))))
      refine Lq (JA O O O) (Lq (Jd O) (Je (Jf (Jn ?_))))
      refine ⟨_,[],[],fun Z w hs=> .tmp O .nil,?_,fun Z w hs=>hs.out (Sd2 (Sr)) (fun _ h=>h)⟩
      refine ⟨⟨_,O,fun e=> ?_⟩,O,O⟩
      subst e
      have hbs2:=hbs rfl
      first | (simp_all [str_beq.2 rfl];done) | simp_all
    ·refine Ln O O O g43 (Ln O O O g43 (Ln O O O g43 (Ln O O O g43 (Ln O O O g43 (Lq (JA O g43 O) (Lq (Jb O) (Ln O O O O (Ln O O O O (Ln O O O O ?_)))))))))
     refine Ln O O O O (Ln O O O O (Lq (JA O O O) (Lq (Jb O) (Ln O O O O (Ln O O O O (Ln O O O O (Ln O O O O (Ln O O O O (Ln O O O O ?_)))))))))
     refine Ln O O O O (Lq (JA O O O) (Lq (Jb O) (Ln O O O O (Ln O O O O (Ln O O O O (Ln O O O O (Ln O O O O (Ln O O O O (Ln O O O O ?_)))))))))
     refine Lq (JA O O O) (Lq (Jb O) (Ln O O O O (Ln O O O O (Ln O O O O (Ln O O O O (Ln O O O O (Lq (JA O O O) (Lq (Jd O) (Je (Jf (Jn ?_)))))))))))
     refine ⟨_,[],[],fun Z w hs=> .tmp O .nil,?_,fun Z w hs=>hs.out (Sd2 (Sr)) (fun _ h=>h)⟩
     refine ⟨⟨_,O,fun e=> ?_⟩,O,O⟩
     subst e
     have hbs2:=hbs rfl
     first | (simp_all [str_beq.2 rfl];done) | simp_all
   ·refine Ln O O O g34 (Ln O O O g34 (Ln O O O g34 (Ln O O O g34 (Ln O O O g34 (Ln O O O g34 (Ln O O O g34 (Lq (JA O g34 O) (Lq (Jb O) (Ln O O O O ?_)))))))))
    refine Ln O O O O (Ln O O O O (Ln O O O O (Ln O O O O (Lq (JA O O O) (Lq (Jb O) (Ln O O O O (Ln O O O O (Ln O O O O (Ln O O O O ?_)))))))))
    refine Ln O O O O (Lq (JA O O O) (Lq (Jb O) (Ln O O O O (Ln O O O O (Ln O O O O (Ln O O O O (Ln O O O O (Ln O O O O (Ln O O O O ?_)))))))))
    refine Lq (JA O O O) (Lq (Jb O) (Ln O O O O (Ln O O O O (Ln O O O O (Ln O O O O (Ln O O O O (Ln O O O O (Ln O O O O (Lq (JA O O O) ?_)))))))))
    refine Lq (Jb O) (Ln O O O O (Ln O O O O (Ln O O O O (Ln O O O O (Ln O O O O (Lq (JA O O O) (Lq (Jd O) (Je (Jf (Jn ?_))))))))))
    refine ⟨_,[],[],fun Z w hs=> .tmp O .nil,?_,fun Z w hs=>hs.out (Sd2 (Sr)) (fun _ h=>h)⟩
    refine ⟨⟨_,O,fun e=> ?_⟩,O,O⟩
    subst e
    have hbs2:=hbs rfl
    first | (simp_all [str_beq.2 rfl];done) | simp_all
  ·refine Ln O O O g23 (Ln O O O g23 (Ln O O O g23 (Ln O O O g23 (Ln O O O g23 (Ln O O O g23 (Ln O O O g23 (Ln O O O g23 (Ln O O O g23 (Lq (JA O g23 O) ?_)))))))))
   refine Lq (Jb O) (Ln O O O O (Ln O O O O (Ln O O O O (Ln O O O O (Ln O O O O (Ln O O O O (Ln O O O O (Lq (JA O O O) (Lq (Jb O) ?_)))))))))
   refine Ln O O O O (Ln O O O O (Ln O O O O (Ln O O O O (Ln O O O O (Lq (JA O O O) (Lq (Jb O) (Ln O O O O (Ln O O O O (Ln O O O O ?_)))))))))
   refine Ln O O O O (Ln O O O O (Lq (JA O O O) (Lq (Jb O) (Ln O O O O (Ln O O O O (Ln O O O O (Ln O O O O (Ln O O O O (Ln O O O O ?_)))))))))
   refine Ln O O O O (Lq (JA O O O) (Lq (Jb O) (Ln O O O O (Ln O O O O (Ln O O O O (Ln O O O O (Ln O O O O (Ln O O O O (Ln O O O O ?_)))))))))
   refine Lq (JA O O O) (Lq (Jb O) (Ln O O O O (Ln O O O O (Ln O O O O (Ln O O O O (Ln O O O O (Lq (JA O O O) (Lq (Jd O) (Je (Jf (Jn ?_)))))))))))
   refine ⟨_,[],[],fun Z w hs=> .tmp O .nil,?_,fun Z w hs=>hs.out (Sd2 (Sr)) (fun _ h=>h)⟩
   refine ⟨⟨_,O,fun e=> ?_⟩,O,O⟩
   subst e
   have hbs2:=hbs rfl
   first | (simp_all [str_beq.2 rfl];done) | simp_all
 ·refine Ln O O O g12 (Ln O O O g12 (Ln O O O g12 (Ln O O O g12 (Ln O O O g12 (Ln O O O g12 (Ln O O O g12 (Ln O O O g12 (Ln O O O g12 (Lq (JA O g12 O) ?_)))))))))
  refine Lq (Jb O) (Ln O O O O (Ln O O O O (Ln O O O O (Ln O O O O (Ln O O O O (Ln O O O O (Ln O O O O (Ln O O O O (Ln O O O O ?_)))))))))
  refine Lq (JA O O O) (Lq (Jb O) (Ln O O O O (Ln O O O O (Ln O O O O (Ln O O O O (Ln O O O O (Ln O O O O (Ln O O O O (Lq (JA O O O) ?_)))))))))
  refine Lq (Jb O) (Ln O O O O (Ln O O O O (Ln O O O O (Ln O O O O (Ln O O O O (Lq (JA O O O) (Lq (Jb O) (Ln O O O O (Ln O O O O ?_)))))))))
  refine Ln O O O O (Ln O O O O (Ln O O O O (Lq (JA O O O) (Lq (Jb O) (Ln O O O O (Ln O O O O (Ln O O O O (Ln O O O O (Ln O O O O ?_)))))))))
  refine Ln O O O O (Ln O O O O (Lq (JA O O O) (Lq (Jb O) (Ln O O O O (Ln O O O O (Ln O O O O (Ln O O O O (Ln O O O O (Ln O O O O ?_)))))))))
  refine Ln O O O O (Lq (JA O O O) (Lq (Jb O) (Ln O O O O (Ln O O O O (Ln O O O O (Ln O O O O (Ln O O O O (Lq (JA O O O) (Lq (Jd O) ?_)))))))))
  refine Je (Jf (Jn ?_))
  refine ⟨_,[],[],fun Z w hs=> .tmp O .nil,?_,fun Z w hs=>hs.out (Sd2 (Sr)) (fun _ h=>h)⟩
  refine ⟨⟨_,O,fun e=> ?_⟩,O,O⟩
  subst e
  have hbs2:=hbs rfl
  first | (simp_all [str_beq.2 rfl];done) | simp_all
theorem sameOps_b (A B:Option Addr) (c d:Nat) (xs ys:List GOp) (hl:xs.length≤8796093022208) (hly:ys.length≤8796093022208) (hf: ∀o∈xs,Fit o) (hf2: ∀o∈ys,Fit o):Sp Tryz.prog 34 [.slice A xs.length c, .slice B ys.length d] [] [RdF opD A c xs,RdF opD B d ys] (fun v Lo fs=>SameB (xs=ys) v∧Lo= [] ∧fs= []):=by
 refine Sp.of (n:=29) ⟨_,Tryz.func34,O,O,O,O⟩ (Nat.le_of_ble_eq_true O) fun Ps As=>Jc (Ja (Lq (Jd O) (Je (Jf (Jc (Jc (Ja (Lq (Jb O) (Lq (J7 Un44 O) (Lq (Jb O) (Lq (J7 Un44 O) (Lq (Kp O O) (Je (Jf ?_))))))))))))))
 refine Jy O (fun h11=> ?_) (fun h11=> ?_)
 ·refine Jc (Ja (Lq (Jd O) (Je (Jf (Jn (Jr ?_))))))
  refine ⟨_,[],[],fun Z w hs=> .tmp O .nil,?_,fun Z w hs=>hs.out (Sr) (fun _ h=>h)⟩
  refine ⟨⟨_,O,fun e=> ?_⟩,O,O⟩
  subst e
  simp at h11
 ·have hll:xs.length=ys.length:=by have h:=h11;simp at h;omega
  refine Jp (Jf (Jc (Jc (Ja (Lq (Jd O) (Je (Jf (JO ?_))))))))
  refine Ki (α:=Nat) (fun k=>xs.length-k)
   (fun k=> [(0, .slice A xs.length c),(1, .slice B ys.length d),(5, .int .i64 k)])
   (fun k=>Ps)
   (fun k=>(RdF opD A c xs::RdF opD B d ys::As))
   (fun k=>k≤xs.length)
   0 ?_ (.m3 rfl rfl rfl) (Sr) (fun _ h=>h) ?_
  ·exact Nat.zero_le _
  ·rintro k hI
   refine Jc (Jc (Ja (Lq (Jb O) (Lq (Jb O) (Lq (J7 Un44 O) (Lq (Ku O O) (Je (Jf (Jy O (fun h15=> ?_) (fun h15=> ?_))))))))))
   ·refine Jp (Jf (Jc (JO (Jc ?_))))
    have hk:k<xs.length:=by have h:=h15;simp only [decide_eq_true_eq] at h;omega
    have hk2:k<ys.length:=by omega
    refine Kh (k:=k) Mm0 (List.getElem?_eq_getElem hk) (op_open _) fun b1 q1 y1 e1=> ?_
    cases e1
    refine Kh (k:=k) Mm3 (List.getElem?_eq_getElem hk2) (op_open _) fun b2 q2 y2 e2=> ?_
    cases e2
    refine JI _ _ [] (.c 0 0 (.c 1 0 (.c 2 0 (.c 3 0 (.c 4 0 (.c 5 0 (.c 6 0 (.c 7 0 (.c 8 2 (.c 9 0 .nil)))))))))) mixed (fun _ _ _ _ h=>h) (Sr) (fun _ h=>h) (by kernel_rfl) (by decide) fun ws Z0=>Qe O (Jb O) (Qe O (Jb O) (Qe O (Kc Un44 JF O O (by omega) (by omega)) (Qe O (Kq (k:=0) (vs:= [_,_,_,_,_,_,_,_,_]) Un40 O JF O Mm2 O O O) (Qe O (Jb O) (Qe O (Jb O) (Qe O (Kc Un44 JF O O (by omega) (by omega)) (Qe O (Kq (k:=0) (vs:= [_,_,_,_,_,_,_,_,_]) Un40 O JF O Mm0 O O O) ?_)))))))
    refine Js O O (Jo (equal_b xs[k] ys[k] y1.1 y2.1 y1.2 y2.2 (hf _ (List.getElem_mem hk)).rs (hf2 _ (List.getElem_mem hk2)).rs) (.n2 O O) (by decide) (Jl Mm4 (Jl Mm2 Jx)) fun _ _ _ q9=>?_)
    obtain ⟨⟨b5,rfl,hb5⟩,rfl,rfl⟩:=q9
    refine ⟨⟨(Sr),Mm0⟩,?_⟩
    refine Qe O (Jd O) (JJ (JK (Jf (Jc (Ja (Lq (Jb O) (Lq (KC O) (Je (Jf (Jy O (fun h28=> ?_) (fun h28=> ?_)))))))))))
    ·refine Jc (Ja (Lq (Jd O) (Je (Jf (Jn (JM (Jr (Jr (JM (Jr ?_))))))))))
     refine ⟨_,[],[],fun Z w hs=> .tmp O .nil,?_,fun Z w hs=>hs.out (Sr) Tt5⟩
     refine ⟨⟨_,O,fun e=> ?_⟩,O,O⟩
     subst e
     have:=hb5 rfl
     subst this
     simp at h28
    ·refine Jp (J9 (Jf (Ja (Lq (Jb O) (Lq (JZ O O (wr64 (by omega)) (c:=((k+1:Nat):Int))) (Lq (Jd O) (Je (Ko ?_))))))))
     refine ⟨k+1,?_,(.m3 O O O),(Sr),Tt5⟩
     exact ⟨by omega,by omega⟩
   ·refine Kr (JR (JR (Kg (Jf (Jc (Ja (Lq (Jd O) (Je (Jf (Jn ?_))))))))))
    refine ⟨_,[],[],fun Z w hs=> .tmp O .nil,?_,fun Z w hs=>hs.out (Sr) (fun _ h=>h)⟩
    exact ⟨⟨_,O,fun _=>O⟩,O,O⟩
theorem clone_f {v:Value} {p:Part} {xs:List Id2} (hr:Row 34 2 v xs.length (Kb idC xs) p) (hl:xs.length≤1000000):Sp Tryz.prog 94 [v] [p] [] (fun u Lo fs=> ∃(A:Option Addr) (c:Nat),u= .slice A xs.length c∧Lo= [p] ∧fs= [RdF idD A c xs]):=by
 have h1:=Sp.thawRow (e:=idD) (f:=idC) (P:=Tryz.prog) (k:=94) (args:= [v]) (Lin:= []) (pre:= []) (res:=fun v Lo fs=> ∃p,Row 34 2 v xs.length (Kb idC xs) p∧Lo= [p] ∧fs= []) (fun _ _ _=>rfl) hr (fun A c hv=>by
  subst hv
  cases A with
  | none=>
   refine clone_n c xs ?_
   rcases hr.2 with ⟨_,h0,_⟩ | ⟨b,cap,jk,h0,_⟩
   ·exact List.length_eq_zero_iff.1 h0
   ·cases h0
  | some a=>exact clone_a a c xs hl) (fun _ _ _ ⟨_,_,_,h⟩=>h)
 refine ⟨h1.enters,fun Z w Ps As hs=>(h1.calls Z w Ps As hs).mono ?_⟩
 rintro e w' ⟨u,rfl,Z',Lo,fs,⟨_,⟨p2,hp2,rfl,_⟩,rfl,rfl⟩,h2⟩
 have h3:=h2.addFact (A:=RepsF idD xs (xs.map idC)) (G0 (fun _ _ _=>rfl) xs Z' w')
 obtain ⟨A,c,Z2,rfl,h4⟩:=h3.freezeRow (e:=idD) (Ps':=p::Ps) (.s .z) hp2 rfl Mm0
 refine ⟨_,O,Z2,[p],[RdF idD A c xs],⟨A,c,O,O,O⟩,h4.subFacts fun B hB=> ?_⟩
 rcases List.mem_cons.1 hB with rfl | hB
 ·exact Mm0
 ·exact .tail _ (.tail _ hB)
theorem Zc (s:Nat) (vu vr:Value) (pu pr:Part) (U R:List Id2) (hU:Row 34 2 vu U.length (Kb idC U) pu) (hR:Row 34 2 vr R.length (Kb idC R) pr) (hlU:U.length≤100000) (hlR:R.length≤100000):Sp Tryz.prog 60 [.pointer (some ⟨s,0,none⟩)] [stP s vu vr,pu,pr] [] (fun v Lo fs=> ∃(A1:Option Addr) (c1:Nat) (A2:Option Addr) (c2:Nat),v= .tuple #[.slice A1 U.length c1, .slice A2 R.length c2] ∧Lo= [stP s vu vr,pu,pr] ∧fs= [RdF idD A1 c1 U,RdF idD A2 c2 R]):=by
 refine Sp.of (n:=14) ⟨_,Tryz.func60,O,O,O,O⟩ (Nat.le_of_ble_eq_true O) fun Ps As=>Jc (Ja (Lq (Jd O) (Lq (Jd O) (Je (Jf (Jc (JI _ _ [] (.c 0 0 (.c 1 0 (.c 2 0 (.c 3 0 (.c 5 0 (.c 6 0 (.c 7 0 (.c 8 0 (.c 4 2 (.c 9 2 (.c 10 0 (.c 11 0 .nil)))))))))))) mixed (fun _ _ _ _ h=>h) (Sk (Sd2 (Sr))) (fun _ h=>h) (by kernel_rfl) (by decide) fun ws Z0=>Qe O (Jb O) (Qe O (JB O) (Qe O (Jh (o':=0) Un92 O Qg O O) (Qe O (Jj Un45 O O Jm O) ?_))))))))))
 refine Qe O (Jb O) (Qe O (JB O) (Qe O (Jh (o':=1) Un92 O Qg O O) (Qe O (Jj Un45 O O Jm O) (Js O O (JX (clone_f hU (by omega)) (.n1 O) (by decide) .z1 Jx fun _ _ _ q9=>?_)))))
 obtain ⟨A1,c1,rfl,rfl,rfl⟩:=q9
 refine ⟨⟨(Sd (Sk (Sd (Sr)))),Mm1⟩,?_⟩
 refine Js O O (JX (clone_f hR (by omega)) (.n1 O) (by decide) .z2 Jx fun _ _ _ q9=>?_)
 obtain ⟨A2,c2,rfl,rfl,rfl⟩:=q9
 refine ⟨⟨(Sd2 (Sk (Sr))),Mm2⟩,?_⟩
 refine Qe O (Jd O) (Qe O (Jd O) (JJ (JK (Jf (Jn ?_)))))
 refine ⟨_,[_,_,_],[_,_],fun Z w hs=> .tmp O (.tmp O .nil),?_,fun Z w hs=>(((hs.pick .z).pick .z1).pick .z2).out (Sk3 (Sr)) (Jl Mm1 (Jl Mm0 Tt3))⟩
 exact ⟨A1,c1,A2,c2,O,O,O⟩
theorem HL (M:DM) (D:DS) (ok:DkOk M D):Sp Tryz.prog 26 [.pointer (some ⟨M.d,0,none⟩)] (Kv M D) [] (fun v Lo fs=> ∃(A1:Option Addr) (c1:Nat) (A2:Option Addr) (c2:Nat),v= .tuple #[.slice A1 D.U.length c1, .slice A2 D.R.length c2] ∧Lo=Kv M D∧fs= [RdF idD A1 c1 D.U,RdF idD A2 c2 D.R]):=by
 have hpl:=ok.pl
 have hsl:=ok.sl
 have hmd:=ok.md
 refine Sp.of (n:=11) ⟨_,Tryz.func26,O,O,O,O⟩ (Nat.le_of_ble_eq_true O) fun Ps As=>Jc (Ja (Lq (Jd O) (Lq (Jd O) (Je (Jf (Jc (Ja (Lq (Jb O) (Lq (JB O) (Lq (Jh (o':=18) Un65 O EN O O) (Lq (Jj Un61 O O Jm (dk18 hpl)) (Jg O (Ky (Zc M.s M.vu M.vr M.pu M.pr D.U D.R ok.hU ok.hR (by omega) (by omega)) (.n1 O) (by decide) .z5 .z5 .z5 Jx fun _ _ _ q9=>?_)))))))))))))
 obtain ⟨A1,c1,A2,c2,rfl,rfl,rfl⟩:=q9
 refine Lq (Jk (vs:= [_,_]) O O) (Lq (Jk (vs:= [_,_]) O O) (Lq (Jd O) (Lq (Jd O) (Je (Jf (Jn ?_))))))
 refine ⟨_,[_,_,_,_,_,_,_,_],[_,_],fun Z w hs=> .tmp O (.tmp O .nil),?_,fun Z w hs=>((((((((hs.pick .z2).pick .z2).pick .z2).pick .z7).pick .z7).pick .z7).pick .z7).pick .z7).out (Sk8 (Sr)) (fun _ h=>h)⟩
 exact ⟨A1,c1,A2,c2,O,O,O⟩
structure SnM where
 A1:Option Addr
 c1:Nat
 A2:Option Addr
 c2:Nat
 A3:Option Addr
 c3:Nat
 A4:Option Addr
 c4:Nat
 A5:Option Addr
 c5:Nat
def snapC (D:DS) (S:SnM):List Value:= [.string (textF D.X), .slice S.A1 (runsF D.X).length S.c1, .slice S.A2 D.H.ops.length S.c2, .slice S.A3 (D.H.ops.drop D.got).length S.c3, .slice S.A4 D.U.length S.c4, .slice S.A5 D.R.length S.c5, .int .i64 (J8 (D.X.take D.gap):Nat), .int .i64 D.gap, .int .i64 D.got, .int .i64 D.H.ops.length, .int .i64 (J8 D.X:Nat), .int .i64 D.X.length]
def snapV (D:DS) (S:SnM):Value:= .agg (snapC D S).toArray
abbrev snapF (D:DS) (S:SnM):List Fact:= [RdF runD S.A1 S.c1 (runsF D.X),RdF opD S.A2 S.c2 D.H.ops,RdF opD S.A3 S.c3 (D.H.ops.drop D.got),RdF idD S.A4 S.c4 D.U,RdF idD S.A5 S.c5 D.R]
theorem bd47_0_1_3_6_7_8_9_10_11Xi2 (x0_:ByteArray) (x1_A:Option Addr) (x1_n x1_c:Nat) (x3_A:Option Addr) (x3_n x3_c:Nat) (x6_:Int) (x7_:Int) (x8_:Int) (x9_:Int) (x10_:Int) (x11_:Int) (w:World):(Instr.build 47 #[(0, .string x0_),(1, .slice x1_A x1_n x1_c),(3, .slice x3_A x3_n x3_c),(6, .int .i64 x6_),(7, .int .i64 x7_),(8, .int .i64 x8_),(9, .int .i64 x9_),(10, .int .i64 x10_),(11, .int .i64 x11_)]).run Tryz.prog w= .ok (.agg #[.string x0_, .slice x1_A x1_n x1_c, .slice none 0 0, .slice x3_A x3_n x3_c, .slice none 0 0, .slice none 0 0, .int .i64 x6_, .int .i64 x7_, .int .i64 x8_, .int .i64 x9_, .int .i64 x10_, .int .i64 x11_]) w:=by kernel_rfl
theorem Zb (M:DM) (D:DS) (ok:DkOk M D):Sp Tryz.prog 6 [.pointer (some ⟨M.d,0,none⟩)] (Kv M D) (barF::KT M D) (fun v Lo fs=> ∃S:SnM,v=snapV D S∧Lo=Kv M D∧fs=snapF D S):=by
 have hvl:=Kn M.t.row
 have hwt:=ok.wt
 have htl:=ok.tl
 have hrow:=ok.row
 have hpl:=ok.pl
 refine Sp.of (n:=51) ⟨_,Tryz.func6,O,O,O,O⟩ (Nat.le_of_ble_eq_true O) fun Ps As=>Jc (Ja (Jg O (Jv (cs:= [_,_,_,_,_,_,_,_,_,_,_,_]) YU O (by decide) fun b2=>Je (Jf ?_))))
 refine Ej (α:=Nat×Option Addr×Nat×Option Addr×Nat)
  (fun (b3,A1,c1,A3,c3)=> [(0, .pointer (some ⟨M.d,0,none⟩)),(2, .pointer (some ⟨b2,0,none⟩)),(3, .pointer (some ⟨b3,0,none⟩))])
  (fun (b3,A1,c1,A3,c3)=>([(b3,JD [.string (textF D.X), .slice A1 (runsF D.X).length c1, .slice none 0 0, .slice A3 (D.H.ops.drop D.got).length c3, .slice none 0 0, .slice none 0 0, .int .i64 (J8 (D.X.take D.gap):Nat), .int .i64 D.gap, .int .i64 D.got, .int .i64 D.H.ops.length, .int .i64 (J8 D.X:Nat), .int .i64 D.X.length] 47)] ::dkB M D::hdP M.h M.A D.H.ops.length M.cap M.m D.H.total::mpP M.m M.L::mkP M.L::rpP M.b M.B::stP M.s M.vu M.vr::M.pu::M.pr:: [(b2,JD [.string ⟨#[]⟩, .slice none 0 0, .slice none 0 0, .slice none 0 0, .slice none 0 0, .slice none 0 0, .int .i64 0, .int .i64 0, .int .i64 0, .int .i64 0, .int .i64 0, .int .i64 0] 47)] ::Ps))
  (fun (b3,A1,c1,A3,c3)=>(RdF runD A1 c1 (runsF D.X)::RdF opD A3 c3 (D.H.ops.drop D.got)::barF::RdF opD M.A M.cap D.H.ops::AllF M.L nowF::TrF M.B M.t::As))
  (fun (b3,A1,c1,A3,c3)=>True) ?_ ?_
 ·refine Jt .z8 (Jt .z8 (Jt .z8 (Jt .z8 (Jt .z8 (Jt .z8 (Jt .z8 (Jt .z8 ?_)))))))
  refine JI _ _ [30] (.c 0 0 (.c 1 0 (.c 2 0 (.c 4 0 (.c 5 0 (.c 6 0 (.c 8 0 (.c 10 0 (.c 12 0 (.c 14 0 (.c 16 0 (.c 17 0 (.c 18 0 (.c 20 0 (.c 21 0 (.c 22 0 (.c 24 0 (.c 25 0 (.c 26 0 (.b (.c 3 2 (.b (.c 7 2 (.b (.c 9 2 (.b (.c 11 2 (.b (.c 13 2 (.b (.c 15 2 (.b (.c 19 2 (.b (.c 23 2 (.b (.c 27 2 (.c 28 0 (.c 29 2 (.c 30 3 .nil)))) (.c 29 2 (.c 27 2 (.c 28 0 (.c 30 3 .nil)))))) (.c 29 2 (.c 23 2 (.c 27 2 (.c 28 0 (.c 30 3 .nil))))))) (.c 29 2 (.c 19 2 (.c 23 2 (.c 27 2 (.c 28 0 (.c 30 3 .nil)))))))) (.c 29 2 (.c 15 2 (.c 19 2 (.c 23 2 (.c 27 2 (.c 28 0 (.c 30 3 .nil))))))))) (.c 29 2 (.c 13 2 (.c 15 2 (.c 19 2 (.c 23 2 (.c 27 2 (.c 28 0 (.c 30 3 .nil)))))))))) (.c 29 2 (.c 11 2 (.c 13 2 (.c 15 2 (.c 19 2 (.c 23 2 (.c 27 2 (.c 28 0 (.c 30 3 .nil))))))))))) (.c 29 2 (.c 9 2 (.c 11 2 (.c 13 2 (.c 15 2 (.c 19 2 (.c 23 2 (.c 27 2 (.c 28 0 (.c 30 3 .nil)))))))))))) (.c 29 2 (.c 7 2 (.c 9 2 (.c 11 2 (.c 13 2 (.c 15 2 (.c 19 2 (.c 23 2 (.c 27 2 (.c 28 0 (.c 30 3 .nil))))))))))))) (.c 29 2 (.c 3 2 (.c 7 2 (.c 9 2 (.c 11 2 (.c 13 2 (.c 15 2 (.c 19 2 (.c 23 2 (.c 27 2 (.c 28 0 (.c 30 3 .nil)))))))))))))))))))))))))))))))) mixed (fun _ _ _ _ h=>h) (Sd8 (Sk (Sr))) (fun _ h=>h) (by kernel_rfl) (by decide) fun ws Z0=> ?_
  refine Qe O (Jb O) (Qe O (JB O) (Qe O (Jh (o':=0) Un65 O Ym O O) (Qe O (Jb O) (Qe O (JB O) (Qe O (Jh (o':=0) Un65 O Ym O O) (Qe O (Jb O) (Qe O (Jb O) (Qe O (Jb O) (Qe O (Jb O) ?_)))))))))
  refine Qe O (Jb O) (Qe O (JB O) (Qe O (Jh (o':=0) Un65 O Ym O O) (Qe O (Jb O) (Qe O (JB O) (Qe O (Jh (o':=0) Un65 O Ym O O) (Qe O (Jb O) (Qe O (JB O) (Qe O (Jh (o':=0) Un65 O Ym O O) (KN ?_ ?_)))))))))
  ·refine Js O O (J4 (VZ M.d M.h M.b _ _ M.B M.t hwt (by omega)) (.n1 O) (by decide) .z .z3 (Jl Mm4 Jx) fun _ _ _ q9=>?_)
   obtain ⟨rfl,rfl,rfl⟩:=q9
   rw [hrow]
   refine ⟨⟨(Sd8 (Sk (Sr))),Mm0⟩,?_⟩
   refine KN ?_ ?_
   ·refine Js O O (J4 (XV M.d M.b _ _ M.h M.B M.t hwt (by omega)) (.n1 O) (by decide) .z .z (Jl Mm4 Jx) fun _ _ _ q9=>?_)
    obtain ⟨A1,c1,rfl,rfl,rfl⟩:=q9
    rw [hrow]
    refine ⟨⟨(Sd8 (Sk (Sr))),Mm1⟩,?_⟩
    refine KN ?_ ?_
    ·refine Js O O (JW (QZ M D ok) (.n1 O) (by decide) (.n8 .z .z1 .z1 .z1 .z .z .z .z) (Jl Mm2 (Jl Mm3 (Jl Mm4 (Jl Mm5 Jx)))) fun _ _ _ q9=>?_)
     obtain ⟨A3,c3,rfl,rfl,rfl⟩:=q9
     refine ⟨⟨(Sd8 (Sk (Sr))),Mm2⟩,?_⟩
     refine KN ?_ ?_
     ·refine Js O O (JW (QJ M D ok) (.n1 O) (by decide) (.n8 .z .z .z .z .z .z .z .z) (Jl Mm3 (Jl Mm4 (Jl Mm5 (Jl Mm6 Jx)))) fun _ _ _ q9=>?_)
      obtain ⟨rfl,rfl,rfl⟩:=q9
      refine ⟨⟨(Sd8 (Sk (Sr))),Mm2⟩,?_⟩
      refine KN ?_ ?_
      ·refine Js O O (JW (VU M D ok) (.n1 O) (by decide) (.n8 .z .z .z .z .z .z .z .z) Jx fun _ _ _ q9=>?_)
       obtain ⟨rfl,rfl,rfl⟩:=q9
       refine ⟨⟨(Sd8 (Sk (Sr))),Mm2⟩,?_⟩
       refine KN ?_ ?_
       ·refine Js O O (JW (YC M D ok) (.n1 O) (by decide) (.n8 .z .z .z .z .z .z .z .z) Jx fun _ _ _ q9=>?_)
        obtain ⟨rfl,rfl,rfl⟩:=q9
        refine ⟨⟨(Sd8 (Sk (Sr))),Mm2⟩,?_⟩
        refine KN ?_ ?_
        ·refine Js O O (J4 (YF M.d M.h M.m M.b D.H.ops.length M.cap _ _ M.A D.H.total) (.n1 O) (by decide) .z .z Jx fun _ _ _ q9=>?_)
         obtain ⟨rfl,rfl,rfl⟩:=q9
         refine ⟨⟨(Sd8 (Sk (Sr))),Mm2⟩,?_⟩
         refine KN ?_ ?_
         ·refine Js O O (J4 (K1 M.d M.h M.b _ _ M.B M.t hwt) (.n1 O) (by decide) .z .z3 (Jl Mm6 Jx) fun _ _ _ q9=>?_)
          obtain ⟨rfl,rfl,rfl⟩:=q9
          rw [hrow]
          refine ⟨⟨(Sd8 (Sk (Sr))),Mm2⟩,?_⟩
          refine KN ?_ ?_
          ·refine Js O O (J4 (Yi M.d M.b _ _ M.h M.B M.t hwt) (.n1 O) (by decide) .z .z (Jl Mm6 Jx) fun _ _ _ q9=>?_)
           obtain ⟨rfl,rfl,rfl⟩:=q9
           rw [hrow]
           refine ⟨⟨(Sd8 (Sk (Sr))),Mm2⟩,?_⟩
           refine Qe O (JV (.n9 O O O O O O O O O) (bd47_0_1_3_6_7_8_9_10_11Xi2 _ _ _ _ _ _ _ _ _ _ _ _ _)) (Js O O (Jv (cs:= [_,_,_,_,_,_,_,_,_,_,_,_]) YU O (by decide) fun b3=> ?_))
           refine ⟨⟨(Sd9 (Sk (Sr))),Mm2⟩,?_⟩
           refine JJ (J2 O O (Jq (cs':= [_,_,_,_,_,_,_,_,_,_,_,_]) (vs:= [_,_,_,_,_,_,_,_,_,_,_,_]) YU O O O O O (Nat.le_of_ble_eq_true O) .z (JP .z9 (JP .z9 (JP .z9 (JP .z9 (JP .z6 (JP .z9 (JP .z9 (JP .z9 (JP .z9 ?_)))))))))))
           refine JP .z9 (JK (Ko ?_))
           refine ⟨(b3,A1,c1,A3,c3),?_,(.m3 O O O),(Sk10 (Sr)),(Jl Mm1 (Jl Mm0 Tt3))⟩
           trivial
          ·refine Js O O (Jv (cs:= [_,_,_,_,_,_,_,_,_,_,_,_]) YU O (by decide) fun b3=> ?_)
           refine ⟨⟨(Sd9 (Sk (Sr))),Mm2⟩,?_⟩
           refine Js O O (J4 (Yi M.d M.b _ _ M.h M.B M.t hwt) (.n1 O) (by decide) .z1 .z1 (Jl Mm6 Jx) fun _ _ _ q9=>?_)
           obtain ⟨rfl,rfl,rfl⟩:=q9
           rw [hrow]
           refine ⟨⟨(Sd9 (Sk (Sr))),Mm2⟩,?_⟩
           refine Qe O (JV (.n9 O O O O O O O O O) (bd47_0_1_3_6_7_8_9_10_11Xi2 _ _ _ _ _ _ _ _ _ _ _ _ _)) (JJ (J2 O O (Jq (cs':= [_,_,_,_,_,_,_,_,_,_,_,_]) (vs:= [_,_,_,_,_,_,_,_,_,_,_,_]) YU O O O O O (Nat.le_of_ble_eq_true O) .z2 (JP .z9 (JP .z9 (JP .z9 (JP .z9 (JP .z5 (JP .z9 (JP .z9 (JP .z9 ?_)))))))))))
           refine JP .z8 (JP .z9 (JK (Ko ?_)))
           refine ⟨(b3,A1,c1,A3,c3),?_,(.m3 O O O),(Sk10 (Sr)),(Jl Mm1 (Jl Mm0 Tt3))⟩
           trivial
         ·refine Js O O (Jv (cs:= [_,_,_,_,_,_,_,_,_,_,_,_]) YU O (by decide) fun b3=> ?_)
          refine ⟨⟨(Sd9 (Sk (Sr))),Mm2⟩,?_⟩
          refine Js O O (J4 (K1 M.d M.h M.b _ _ M.B M.t hwt) (.n1 O) (by decide) .z1 .z4 (Jl Mm6 Jx) fun _ _ _ q9=>?_)
          obtain ⟨rfl,rfl,rfl⟩:=q9
          rw [hrow]
          refine ⟨⟨(Sd9 (Sk (Sr))),Mm2⟩,?_⟩
          refine Js O O (J4 (Yi M.d M.b _ _ M.h M.B M.t hwt) (.n1 O) (by decide) .z .z (Jl Mm6 Jx) fun _ _ _ q9=>?_)
          obtain ⟨rfl,rfl,rfl⟩:=q9
          rw [hrow]
          refine ⟨⟨(Sd9 (Sk (Sr))),Mm2⟩,?_⟩
          refine Qe O (JV (.n9 O O O O O O O O O) (bd47_0_1_3_6_7_8_9_10_11Xi2 _ _ _ _ _ _ _ _ _ _ _ _ _)) (JJ (J2 O O (Jq (cs':= [_,_,_,_,_,_,_,_,_,_,_,_]) (vs:= [_,_,_,_,_,_,_,_,_,_,_,_]) YU O O O O O (Nat.le_of_ble_eq_true O) .z2 (JP .z9 (JP .z9 (JP .z9 (JP .z9 (JP .z5 (JP .z9 (JP .z9 (JP .z9 ?_)))))))))))
          refine JP .z8 (JP .z9 (JK (Ko ?_)))
          refine ⟨(b3,A1,c1,A3,c3),?_,(.m3 O O O),(Sk10 (Sr)),(Jl Mm1 (Jl Mm0 Tt3))⟩
          trivial
        ·refine Js O O (Jv (cs:= [_,_,_,_,_,_,_,_,_,_,_,_]) YU O (by decide) fun b3=> ?_)
         refine ⟨⟨(Sd9 (Sk (Sr))),Mm2⟩,?_⟩
         refine Js O O (J4 (YF M.d M.h M.m M.b D.H.ops.length M.cap _ _ M.A D.H.total) (.n1 O) (by decide) .z1 .z1 Jx fun _ _ _ q9=>?_)
         obtain ⟨rfl,rfl,rfl⟩:=q9
         refine ⟨⟨(Sd9 (Sk (Sr))),Mm2⟩,?_⟩
         refine Js O O (J4 (K1 M.d M.h M.b _ _ M.B M.t hwt) (.n1 O) (by decide) .z .z4 (Jl Mm6 Jx) fun _ _ _ q9=>?_)
         obtain ⟨rfl,rfl,rfl⟩:=q9
         rw [hrow]
         refine ⟨⟨(Sd9 (Sk (Sr))),Mm2⟩,?_⟩
         refine Js O O (J4 (Yi M.d M.b _ _ M.h M.B M.t hwt) (.n1 O) (by decide) .z .z (Jl Mm6 Jx) fun _ _ _ q9=>?_)
         obtain ⟨rfl,rfl,rfl⟩:=q9
         rw [hrow]
         refine ⟨⟨(Sd9 (Sk (Sr))),Mm2⟩,?_⟩
         refine Qe O (JV (.n9 O O O O O O O O O) (bd47_0_1_3_6_7_8_9_10_11Xi2 _ _ _ _ _ _ _ _ _ _ _ _ _)) (JJ (J2 O O (Jq (cs':= [_,_,_,_,_,_,_,_,_,_,_,_]) (vs:= [_,_,_,_,_,_,_,_,_,_,_,_]) YU O O O O O (Nat.le_of_ble_eq_true O) .z3 (JP .z9 (JP .z9 (JP .z9 (JP .z9 (JP .z5 (JP .z9 (JP .z9 (JP .z8 ?_)))))))))))
         refine JP .z8 (JP .z9 (JK (Ko ?_)))
         refine ⟨(b3,A1,c1,A3,c3),?_,(.m3 O O O),(Sk10 (Sr)),(Jl Mm1 (Jl Mm0 Tt3))⟩
         trivial
       ·refine Js O O (Jv (cs:= [_,_,_,_,_,_,_,_,_,_,_,_]) YU O (by decide) fun b3=> ?_)
        refine ⟨⟨(Sd9 (Sk (Sr))),Mm2⟩,?_⟩
        refine Js O O (JW (YC M D ok) (.n1 O) (by decide) (.n8 .z1 .z1 .z1 .z1 .z1 .z1 .z1 .z1) Jx fun _ _ _ q9=>?_)
        obtain ⟨rfl,rfl,rfl⟩:=q9
        refine ⟨⟨(Sd9 (Sk (Sr))),Mm2⟩,?_⟩
        refine Js O O (J4 (YF M.d M.h M.m M.b D.H.ops.length M.cap _ _ M.A D.H.total) (.n1 O) (by decide) .z .z Jx fun _ _ _ q9=>?_)
        obtain ⟨rfl,rfl,rfl⟩:=q9
        refine ⟨⟨(Sd9 (Sk (Sr))),Mm2⟩,?_⟩
        refine Js O O (J4 (K1 M.d M.h M.b _ _ M.B M.t hwt) (.n1 O) (by decide) .z .z3 (Jl Mm6 Jx) fun _ _ _ q9=>?_)
        obtain ⟨rfl,rfl,rfl⟩:=q9
        rw [hrow]
        refine ⟨⟨(Sd9 (Sk (Sr))),Mm2⟩,?_⟩
        refine Js O O (J4 (Yi M.d M.b _ _ M.h M.B M.t hwt) (.n1 O) (by decide) .z .z (Jl Mm6 Jx) fun _ _ _ q9=>?_)
        obtain ⟨rfl,rfl,rfl⟩:=q9
        rw [hrow]
        refine ⟨⟨(Sd9 (Sk (Sr))),Mm2⟩,?_⟩
        refine Qe O (JV (.n9 O O O O O O O O O) (bd47_0_1_3_6_7_8_9_10_11Xi2 _ _ _ _ _ _ _ _ _ _ _ _ _)) (JJ (J2 O O (Jq (cs':= [_,_,_,_,_,_,_,_,_,_,_,_]) (vs:= [_,_,_,_,_,_,_,_,_,_,_,_]) YU O O O O O (Nat.le_of_ble_eq_true O) .z8 (JP .z9 (JP .z8 (JP .z8 (JP .z8 (JP .z5 (JP .z8 (JP .z8 (JP .z8 ?_)))))))))))
        refine JP .z8 (JP .z9 (JK (Ko ?_)))
        refine ⟨(b3,A1,c1,A3,c3),?_,(.m3 O O O),(Sk10 (Sr)),(Jl Mm1 (Jl Mm0 Tt3))⟩
        trivial
      ·refine Js O O (Jv (cs:= [_,_,_,_,_,_,_,_,_,_,_,_]) YU O (by decide) fun b3=> ?_)
       refine ⟨⟨(Sd9 (Sk (Sr))),Mm2⟩,?_⟩
       refine Js O O (JW (VU M D ok) (.n1 O) (by decide) (.n8 .z1 .z1 .z1 .z1 .z1 .z1 .z1 .z1) Jx fun _ _ _ q9=>?_)
       obtain ⟨rfl,rfl,rfl⟩:=q9
       refine ⟨⟨(Sd9 (Sk (Sr))),Mm2⟩,?_⟩
       refine Js O O (JW (YC M D ok) (.n1 O) (by decide) (.n8 .z .z .z .z .z .z .z .z) Jx fun _ _ _ q9=>?_)
       obtain ⟨rfl,rfl,rfl⟩:=q9
       refine ⟨⟨(Sd9 (Sk (Sr))),Mm2⟩,?_⟩
       refine Js O O (J4 (YF M.d M.h M.m M.b D.H.ops.length M.cap _ _ M.A D.H.total) (.n1 O) (by decide) .z .z Jx fun _ _ _ q9=>?_)
       obtain ⟨rfl,rfl,rfl⟩:=q9
       refine ⟨⟨(Sd9 (Sk (Sr))),Mm2⟩,?_⟩
       refine Js O O (J4 (K1 M.d M.h M.b _ _ M.B M.t hwt) (.n1 O) (by decide) .z .z3 (Jl Mm6 Jx) fun _ _ _ q9=>?_)
       obtain ⟨rfl,rfl,rfl⟩:=q9
       rw [hrow]
       refine ⟨⟨(Sd9 (Sk (Sr))),Mm2⟩,?_⟩
       refine Js O O (J4 (Yi M.d M.b _ _ M.h M.B M.t hwt) (.n1 O) (by decide) .z .z (Jl Mm6 Jx) fun _ _ _ q9=>?_)
       obtain ⟨rfl,rfl,rfl⟩:=q9
       rw [hrow]
       refine ⟨⟨(Sd9 (Sk (Sr))),Mm2⟩,?_⟩
       refine Qe O (JV (.n9 O O O O O O O O O) (bd47_0_1_3_6_7_8_9_10_11Xi2 _ _ _ _ _ _ _ _ _ _ _ _ _)) (JJ (J2 O O (Jq (cs':= [_,_,_,_,_,_,_,_,_,_,_,_]) (vs:= [_,_,_,_,_,_,_,_,_,_,_,_]) YU O O O O O (Nat.le_of_ble_eq_true O) .z8 (JP .z9 (JP .z8 (JP .z8 (JP .z8 (JP .z5 (JP .z8 (JP .z8 (JP .z8 ?_)))))))))))
       refine JP .z8 (JP .z9 (JK (Ko ?_)))
       refine ⟨(b3,A1,c1,A3,c3),?_,(.m3 O O O),(Sk10 (Sr)),(Jl Mm1 (Jl Mm0 Tt3))⟩
       trivial
     ·refine Js O O (Jv (cs:= [_,_,_,_,_,_,_,_,_,_,_,_]) YU O (by decide) fun b3=> ?_)
      refine ⟨⟨(Sd9 (Sk (Sr))),Mm2⟩,?_⟩
      refine Js O O (JW (QJ M D ok) (.n1 O) (by decide) (.n8 .z1 .z1 .z1 .z1 .z1 .z1 .z1 .z1) (Jl Mm3 (Jl Mm4 (Jl Mm5 (Jl Mm6 Jx)))) fun _ _ _ q9=>?_)
      obtain ⟨rfl,rfl,rfl⟩:=q9
      refine ⟨⟨(Sd9 (Sk (Sr))),Mm2⟩,?_⟩
      refine Js O O (JW (VU M D ok) (.n1 O) (by decide) (.n8 .z .z .z .z .z .z .z .z) Jx fun _ _ _ q9=>?_)
      obtain ⟨rfl,rfl,rfl⟩:=q9
      refine ⟨⟨(Sd9 (Sk (Sr))),Mm2⟩,?_⟩
      refine Js O O (JW (YC M D ok) (.n1 O) (by decide) (.n8 .z .z .z .z .z .z .z .z) Jx fun _ _ _ q9=>?_)
      obtain ⟨rfl,rfl,rfl⟩:=q9
      refine ⟨⟨(Sd9 (Sk (Sr))),Mm2⟩,?_⟩
      refine Js O O (J4 (YF M.d M.h M.m M.b D.H.ops.length M.cap _ _ M.A D.H.total) (.n1 O) (by decide) .z .z Jx fun _ _ _ q9=>?_)
      obtain ⟨rfl,rfl,rfl⟩:=q9
      refine ⟨⟨(Sd9 (Sk (Sr))),Mm2⟩,?_⟩
      refine Js O O (J4 (K1 M.d M.h M.b _ _ M.B M.t hwt) (.n1 O) (by decide) .z .z3 (Jl Mm6 Jx) fun _ _ _ q9=>?_)
      obtain ⟨rfl,rfl,rfl⟩:=q9
      rw [hrow]
      refine ⟨⟨(Sd9 (Sk (Sr))),Mm2⟩,?_⟩
      refine Js O O (J4 (Yi M.d M.b _ _ M.h M.B M.t hwt) (.n1 O) (by decide) .z .z (Jl Mm6 Jx) fun _ _ _ q9=>?_)
      obtain ⟨rfl,rfl,rfl⟩:=q9
      rw [hrow]
      refine ⟨⟨(Sd9 (Sk (Sr))),Mm2⟩,?_⟩
      refine Qe O (JV (.n9 O O O O O O O O O) (bd47_0_1_3_6_7_8_9_10_11Xi2 _ _ _ _ _ _ _ _ _ _ _ _ _)) (JJ (J2 O O (Jq (cs':= [_,_,_,_,_,_,_,_,_,_,_,_]) (vs:= [_,_,_,_,_,_,_,_,_,_,_,_]) YU O O O O O (Nat.le_of_ble_eq_true O) .z8 (JP .z9 (JP .z8 (JP .z8 (JP .z8 (JP .z5 (JP .z8 (JP .z8 (JP .z8 ?_)))))))))))
      refine JP .z8 (JP .z9 (JK (Ko ?_)))
      refine ⟨(b3,A1,c1,A3,c3),?_,(.m3 O O O),(Sk10 (Sr)),(Jl Mm1 (Jl Mm0 Tt3))⟩
      trivial
    ·refine Js O O (Jv (cs:= [_,_,_,_,_,_,_,_,_,_,_,_]) YU O (by decide) fun b3=> ?_)
     refine ⟨⟨(Sd9 (Sk (Sr))),Mm1⟩,?_⟩
     refine Js O O (JW (QZ M D ok) (.n1 O) (by decide) (.n8 .z1 .z2 .z2 .z2 .z1 .z1 .z1 .z1) (Jl Mm2 (Jl Mm3 (Jl Mm4 (Jl Mm5 Jx)))) fun _ _ _ q9=>?_)
     obtain ⟨A3,c3,rfl,rfl,rfl⟩:=q9
     refine ⟨⟨(Sd9 (Sk (Sr))),Mm2⟩,?_⟩
     refine Js O O (JW (QJ M D ok) (.n1 O) (by decide) (.n8 .z .z .z .z .z .z .z .z) (Jl Mm3 (Jl Mm4 (Jl Mm5 (Jl Mm6 Jx)))) fun _ _ _ q9=>?_)
     obtain ⟨rfl,rfl,rfl⟩:=q9
     refine ⟨⟨(Sd9 (Sk (Sr))),Mm2⟩,?_⟩
     refine Js O O (JW (VU M D ok) (.n1 O) (by decide) (.n8 .z .z .z .z .z .z .z .z) Jx fun _ _ _ q9=>?_)
     obtain ⟨rfl,rfl,rfl⟩:=q9
     refine ⟨⟨(Sd9 (Sk (Sr))),Mm2⟩,?_⟩
     refine Js O O (JW (YC M D ok) (.n1 O) (by decide) (.n8 .z .z .z .z .z .z .z .z) Jx fun _ _ _ q9=>?_)
     obtain ⟨rfl,rfl,rfl⟩:=q9
     refine ⟨⟨(Sd9 (Sk (Sr))),Mm2⟩,?_⟩
     refine Js O O (J4 (YF M.d M.h M.m M.b D.H.ops.length M.cap _ _ M.A D.H.total) (.n1 O) (by decide) .z .z Jx fun _ _ _ q9=>?_)
     obtain ⟨rfl,rfl,rfl⟩:=q9
     refine ⟨⟨(Sd9 (Sk (Sr))),Mm2⟩,?_⟩
     refine Js O O (J4 (K1 M.d M.h M.b _ _ M.B M.t hwt) (.n1 O) (by decide) .z .z3 (Jl Mm6 Jx) fun _ _ _ q9=>?_)
     obtain ⟨rfl,rfl,rfl⟩:=q9
     rw [hrow]
     refine ⟨⟨(Sd9 (Sk (Sr))),Mm2⟩,?_⟩
     refine Js O O (J4 (Yi M.d M.b _ _ M.h M.B M.t hwt) (.n1 O) (by decide) .z .z (Jl Mm6 Jx) fun _ _ _ q9=>?_)
     obtain ⟨rfl,rfl,rfl⟩:=q9
     rw [hrow]
     refine ⟨⟨(Sd9 (Sk (Sr))),Mm2⟩,?_⟩
     refine Qe O (JV (.n9 O O O O O O O O O) (bd47_0_1_3_6_7_8_9_10_11Xi2 _ _ _ _ _ _ _ _ _ _ _ _ _)) (JJ (J2 O O (Jq (cs':= [_,_,_,_,_,_,_,_,_,_,_,_]) (vs:= [_,_,_,_,_,_,_,_,_,_,_,_]) YU O O O O O (Nat.le_of_ble_eq_true O) .z8 (JP .z9 (JP .z8 (JP .z8 (JP .z8 (JP .z5 (JP .z8 (JP .z8 (JP .z8 ?_)))))))))))
     refine JP .z8 (JP .z9 (JK (Ko ?_)))
     refine ⟨(b3,A1,c1,A3,c3),?_,(.m3 O O O),(Sk10 (Sr)),(Jl Mm1 (Jl Mm0 Tt3))⟩
     trivial
   ·refine Js O O (Jv (cs:= [_,_,_,_,_,_,_,_,_,_,_,_]) YU O (by decide) fun b3=> ?_)
    refine ⟨⟨(Sd9 (Sk (Sr))),Mm0⟩,?_⟩
    refine Js O O (J4 (XV M.d M.b _ _ M.h M.B M.t hwt (by omega)) (.n1 O) (by decide) .z1 .z1 (Jl Mm4 Jx) fun _ _ _ q9=>?_)
    obtain ⟨A1,c1,rfl,rfl,rfl⟩:=q9
    rw [hrow]
    refine ⟨⟨(Sd9 (Sk (Sr))),Mm1⟩,?_⟩
    refine Js O O (JW (QZ M D ok) (.n1 O) (by decide) (.n8 .z .z2 .z2 .z2 .z .z1 .z1 .z1) (Jl Mm2 (Jl Mm3 (Jl Mm4 (Jl Mm5 Jx)))) fun _ _ _ q9=>?_)
    obtain ⟨A3,c3,rfl,rfl,rfl⟩:=q9
    refine ⟨⟨(Sd9 (Sk (Sr))),Mm2⟩,?_⟩
    refine Js O O (JW (QJ M D ok) (.n1 O) (by decide) (.n8 .z .z .z .z .z .z .z .z) (Jl Mm3 (Jl Mm4 (Jl Mm5 (Jl Mm6 Jx)))) fun _ _ _ q9=>?_)
    obtain ⟨rfl,rfl,rfl⟩:=q9
    refine ⟨⟨(Sd9 (Sk (Sr))),Mm2⟩,?_⟩
    refine Js O O (JW (VU M D ok) (.n1 O) (by decide) (.n8 .z .z .z .z .z .z .z .z) Jx fun _ _ _ q9=>?_)
    obtain ⟨rfl,rfl,rfl⟩:=q9
    refine ⟨⟨(Sd9 (Sk (Sr))),Mm2⟩,?_⟩
    refine Js O O (JW (YC M D ok) (.n1 O) (by decide) (.n8 .z .z .z .z .z .z .z .z) Jx fun _ _ _ q9=>?_)
    obtain ⟨rfl,rfl,rfl⟩:=q9
    refine ⟨⟨(Sd9 (Sk (Sr))),Mm2⟩,?_⟩
    refine Js O O (J4 (YF M.d M.h M.m M.b D.H.ops.length M.cap _ _ M.A D.H.total) (.n1 O) (by decide) .z .z Jx fun _ _ _ q9=>?_)
    obtain ⟨rfl,rfl,rfl⟩:=q9
    refine ⟨⟨(Sd9 (Sk (Sr))),Mm2⟩,?_⟩
    refine Js O O (J4 (K1 M.d M.h M.b _ _ M.B M.t hwt) (.n1 O) (by decide) .z .z3 (Jl Mm6 Jx) fun _ _ _ q9=>?_)
    obtain ⟨rfl,rfl,rfl⟩:=q9
    rw [hrow]
    refine ⟨⟨(Sd9 (Sk (Sr))),Mm2⟩,?_⟩
    refine Js O O (J4 (Yi M.d M.b _ _ M.h M.B M.t hwt) (.n1 O) (by decide) .z .z (Jl Mm6 Jx) fun _ _ _ q9=>?_)
    obtain ⟨rfl,rfl,rfl⟩:=q9
    rw [hrow]
    refine ⟨⟨(Sd9 (Sk (Sr))),Mm2⟩,?_⟩
    refine Qe O (JV (.n9 O O O O O O O O O) (bd47_0_1_3_6_7_8_9_10_11Xi2 _ _ _ _ _ _ _ _ _ _ _ _ _)) (JJ (J2 O O (Jq (cs':= [_,_,_,_,_,_,_,_,_,_,_,_]) (vs:= [_,_,_,_,_,_,_,_,_,_,_,_]) YU O O O O O (Nat.le_of_ble_eq_true O) .z8 (JP .z9 (JP .z8 (JP .z8 (JP .z8 (JP .z5 (JP .z8 (JP .z8 (JP .z8 ?_)))))))))))
    refine JP .z8 (JP .z9 (JK (Ko ?_)))
    refine ⟨(b3,A1,c1,A3,c3),?_,(.m3 O O O),(Sk10 (Sr)),(Jl Mm1 (Jl Mm0 Tt3))⟩
    trivial
  ·refine Js O O (Jv (cs:= [_,_,_,_,_,_,_,_,_,_,_,_]) YU O (by decide) fun b3=> ?_)
   refine ⟨⟨(Sd9 (Sk (Sr))),Mm0⟩,?_⟩
   refine Js O O (J4 (VZ M.d M.h M.b _ _ M.B M.t hwt (by omega)) (.n1 O) (by decide) .z1 .z4 (Jl Mm4 Jx) fun _ _ _ q9=>?_)
   obtain ⟨rfl,rfl,rfl⟩:=q9
   rw [hrow]
   refine ⟨⟨(Sd9 (Sk (Sr))),Mm0⟩,?_⟩
   refine Js O O (J4 (XV M.d M.b _ _ M.h M.B M.t hwt (by omega)) (.n1 O) (by decide) .z .z (Jl Mm4 Jx) fun _ _ _ q9=>?_)
   obtain ⟨A1,c1,rfl,rfl,rfl⟩:=q9
   rw [hrow]
   refine ⟨⟨(Sd9 (Sk (Sr))),Mm1⟩,?_⟩
   refine Js O O (JW (QZ M D ok) (.n1 O) (by decide) (.n8 .z .z2 .z2 .z2 .z .z1 .z1 .z1) (Jl Mm2 (Jl Mm3 (Jl Mm4 (Jl Mm5 Jx)))) fun _ _ _ q9=>?_)
   obtain ⟨A3,c3,rfl,rfl,rfl⟩:=q9
   refine ⟨⟨(Sd9 (Sk (Sr))),Mm2⟩,?_⟩
   refine Js O O (JW (QJ M D ok) (.n1 O) (by decide) (.n8 .z .z .z .z .z .z .z .z) (Jl Mm3 (Jl Mm4 (Jl Mm5 (Jl Mm6 Jx)))) fun _ _ _ q9=>?_)
   obtain ⟨rfl,rfl,rfl⟩:=q9
   refine ⟨⟨(Sd9 (Sk (Sr))),Mm2⟩,?_⟩
   refine Js O O (JW (VU M D ok) (.n1 O) (by decide) (.n8 .z .z .z .z .z .z .z .z) Jx fun _ _ _ q9=>?_)
   obtain ⟨rfl,rfl,rfl⟩:=q9
   refine ⟨⟨(Sd9 (Sk (Sr))),Mm2⟩,?_⟩
   refine Js O O (JW (YC M D ok) (.n1 O) (by decide) (.n8 .z .z .z .z .z .z .z .z) Jx fun _ _ _ q9=>?_)
   obtain ⟨rfl,rfl,rfl⟩:=q9
   refine ⟨⟨(Sd9 (Sk (Sr))),Mm2⟩,?_⟩
   refine Js O O (J4 (YF M.d M.h M.m M.b D.H.ops.length M.cap _ _ M.A D.H.total) (.n1 O) (by decide) .z .z Jx fun _ _ _ q9=>?_)
   obtain ⟨rfl,rfl,rfl⟩:=q9
   refine ⟨⟨(Sd9 (Sk (Sr))),Mm2⟩,?_⟩
   refine Js O O (J4 (K1 M.d M.h M.b _ _ M.B M.t hwt) (.n1 O) (by decide) .z .z3 (Jl Mm6 Jx) fun _ _ _ q9=>?_)
   obtain ⟨rfl,rfl,rfl⟩:=q9
   rw [hrow]
   refine ⟨⟨(Sd9 (Sk (Sr))),Mm2⟩,?_⟩
   refine Js O O (J4 (Yi M.d M.b _ _ M.h M.B M.t hwt) (.n1 O) (by decide) .z .z (Jl Mm6 Jx) fun _ _ _ q9=>?_)
   obtain ⟨rfl,rfl,rfl⟩:=q9
   rw [hrow]
   refine ⟨⟨(Sd9 (Sk (Sr))),Mm2⟩,?_⟩
   refine Qe O (JV (.n9 O O O O O O O O O) (bd47_0_1_3_6_7_8_9_10_11Xi2 _ _ _ _ _ _ _ _ _ _ _ _ _)) (JJ (J2 O O (Jq (cs':= [_,_,_,_,_,_,_,_,_,_,_,_]) (vs:= [_,_,_,_,_,_,_,_,_,_,_,_]) YU O O O O O (Nat.le_of_ble_eq_true O) .z8 (JP .z9 (JP .z8 (JP .z8 (JP .z8 (JP .z5 (JP .z8 (JP .z8 (JP .z8 ?_)))))))))))
   refine JP .z8 (JP .z9 (JK (Ko ?_)))
   refine ⟨(b3,A1,c1,A3,c3),?_,(.m3 O O O),(Sk10 (Sr)),(Jl Mm1 (Jl Mm0 Tt3))⟩
   trivial
 ·rintro ⟨b3,A1,c1,A3,c3⟩-
  refine Jc (JI _ _ [10] (.c 0 0 (.c 1 0 (.c 2 0 (.c 3 0 (.c 4 0 (.c 5 2 (.c 6 0 (.c 7 0 (.c 8 1 (.c 9 0 (.c 10 3 .nil))))))))))) mixed (fun _ _ _ _ h=>h) (Sk (Sd4 (Sk5 (Sr)))) (fun _ h=>h) (by kernel_rfl) (by decide) fun ws Z0=>Qe O (Jb O) (Qe O (JB O) (Qe O (Jh (o':=0) Un65 O Ym O O) (Qe O (Jh (o':=9) Un47 O ti3 O O) (Qe O (Jj Un3 O O Jm O) ?_)))))
  refine Js O O (JW (ZV M.d M.b _ _ M.h M.m M.cap M.A D.H M.L ok.hr 0 D.H.ops.length (Nat.zero_le _) (by rw [ok.n];exact Nat.le_refl _)) (.n3 O O O) (by decide) (.n4 .z1 .z1 .z1 .z1) (Jl Mm4 Jx) fun _ _ _ q9=>?_)
  obtain ⟨A2,c2,rfl,rfl,rfl⟩:=q9
  rw [List.drop_zero,List.take_length]
  refine ⟨⟨(Sd4 (Sk6 (Sr))),Mm1⟩,?_⟩
  refine Qe O (Jb O) (Qe O (Jk (vs:= [_,_]) O O) (YW O (Jk (vs:= [_,_]) O O) (by decide) (Qe O (Jh (o':=2) Un47 O YV O O) (JJ (J2 O O (JN YV O O O .z2 .z4 (JK (Jf (Jc (Ja (Lq (Jb O) (Jg O (JW (HL M D ok) (.n1 O) (by decide) (.n8 .z .z .z .z .z1 .z1 .z1 .z1) Jx fun _ _ _ q9=>?_)))))))))))))
  obtain ⟨A4,c4,A5,c5,rfl,rfl,rfl⟩:=q9
  refine Lq (Jb O) (Lq (Jk (vs:= [_,_]) O O) (Lq (Jk (vs:= [_,_]) O O) (Lq (Jh (o':=4) Un47 O Qg O O) (Jg O (JN Qg O O O .z4 .z8 (Lq (Jh (o':=5) Un47 O Qg O O) (Jg O (JN Qg O O O .z5 .z8 (Je (Jf (Jc (Ja (Lq (Jw (vs:= [_,_,_,_,_,_,_,_,_,_,_,_]) Un47 O YU O (Ji (Ji (Ji (Ji (Ji (Ji (Ji (Ji (Jm))))))))) O O) (Jg O (Jq (cs':= [_,_,_,_,_,_,_,_,_,_,_,_]) (vs:= [_,_,_,_,_,_,_,_,_,_,_,_]) YU O O O O O (Nat.le_of_ble_eq_true O) .z9 ?_)))))))))))))))
  refine Je (Jf (Jn ?_))
  refine ⟨_,[_,_,_,_,_,_,_,_],[_,_,_,_,_],fun Z w hs=>JS hs Un47 O YU O (Ji (Ji (Ji (Ji (Ji (Ji (Ji (Ji (Ji (Jm)))))))))) O .nil,?_,fun Z w hs=>hs.out (Sk8 (Sd2 (Sr))) (Jl Mm4 (Jl Mm2 (Jl Mm5 (Jl Mm0 (Jl Mm1 Tt6)))))⟩
  exact ⟨⟨A1,c1,A2,c2,A3,c3,A4,c4,A5,c5⟩,O,O,O⟩
theorem Eo (X:List Ce):(runsF X).length≤X.length:=(GY X).flush.2
theorem DkOk.fits {M:DM} {D:DS} (ok:DkOk M D): ∀o∈D.H.ops,Fit o:=fun o ho=>by
 obtain ⟨e,he,rfl⟩:=List.mem_map.1 ho
 exact ok.hr.fit e he
theorem equal_sn (M1 M2:DM) (D1 D2:DS) (S1 S2:SnM) (ok1:DkOk M1 D1) (ok2:DkOk M2 D2):Sp Tryz.prog 8 [snapV D1 S1,snapV D2 S2] [] (snapF D1 S1++snapF D2 S2) (fun v Lo fs=>SameB (D1=D2) v∧Lo= [] ∧fs= []):=by
 unfold snapV snapC
 have n1:=ok1.di.le
 have n2:=ok2.di.le
 have e1:=ok1.sl
 have e2:=ok2.sl
 have m1:=ok1.md
 have m2:=ok2.md
 have x1:=ok1.xl
 have x2:=ok2.xl
 have hl1:(runsF D1.X).length≤8796093022208:=by have:=Eo D1.X;omega
 have hl2:(runsF D2.X).length≤8796093022208:=by have:=Eo D2.X;omega
 have hf1:=ok1.fits
 have hf2:=ok2.fits
 refine Sp.of (n:=85) ⟨_,Tryz.func8,O,O,O,O⟩ (Nat.le_of_ble_eq_true O) fun Ps As=>Jc (Ja (Jg O (J1 (cs:= [_,_,_,_,_,_,_,_,_,_,_,_]) O O (by decide) fun b2=>Jg O (J1 (cs:= [_,_,_,_,_,_,_,_,_,_,_,_]) O O (by decide) fun b3=>Lq (Jd O) (Je (Jf (Jc (Jc (Ja (Lq (Jh (o':=0) Un47 O ti9 O O) (Lq (Jj Un9 O O (Ji (Jm)) O) (Lq (Jh (o':=0) Un47 O ti9 O O) (Lq (Jj Un9 O O Jm O) ?_)))))))))))))
 refine Lq (G1 O O) (Lq (Jb O) (JU (t:=10) O (fun g10=> ?_) (fun g10=> ?_)))
 ·refine Ln O O O g10 (Ln O O O g10 (Ln O O O g10 (Ln O O O g10 (Ln O O O g10 (Lq (JH O g10 O) (Lq (Jb O) (Ln O O O O (Ln O O O O (Ln O O O O ?_)))))))))
  refine Ln O O O O (Ln O O O O (Lq (JH O O O) (Lq (Jb O) (Ln O O O O (Ln O O O O (Ln O O O O (Ln O O O O (Ln O O O O (Lq (JH O O O) ?_)))))))))
  refine Lq (Jb O) (Ln O O O O (Ln O O O O (Ln O O O O (Ln O O O O (Ln O O O O (Lq (JH O O O) (Lq (Jb O) (Ln O O O O (Ln O O O O ?_)))))))))
  refine Ln O O O O (Ln O O O O (Ln O O O O (Lq (JH O O O) (Lq (Jb O) (Ln O O O O (Ln O O O O (Ln O O O O (Ln O O O O (Ln O O O O ?_)))))))))
  refine Lq (JH O O O) (Je (Jf (JQ O O (Jc (Ja (Lq (Jd O) (Je (Jf (Jn (Jr ?_))))))))))
  refine ⟨_,[],[],fun Z w hs=> .tmp O .nil,?_,fun Z w hs=>hs.out (Sd2 (Sr)) (fun _ h=>h)⟩
  refine ⟨⟨_,O,fun e=> ?_⟩,O,O⟩
  subst e
  first | (simp_all [str_beq.2 rfl];done) | simp_all
 ·refine Lg O O O g10 (Jh (o':=6) Un47 O ti3 O O) (Lg O O O g10 (Jj Un3 O O (Ji (Jm)) O) (Lg O O O g10 (Jh (o':=6) Un47 O ti3 O O) (Lg O O O g10 (Jj Un3 O O Jm O) (Lg O O O g10 (Kp O O) (Lq (JA O g10 O) (Lq (Jb O) (JU (t:=17) O (fun g17=> ?_) (fun g17=> ?_))))))))
  ·refine Ln O O O g17 (Ln O O O g17 (Ln O O O g17 (Ln O O O g17 (Ln O O O g17 (Lq (JH O g17 O) (Lq (Jb O) (Ln O O O O (Ln O O O O (Ln O O O O ?_)))))))))
   refine Ln O O O O (Ln O O O O (Lq (JH O O O) (Lq (Jb O) (Ln O O O O (Ln O O O O (Ln O O O O (Ln O O O O (Ln O O O O (Lq (JH O O O) ?_)))))))))
   refine Lq (Jb O) (Ln O O O O (Ln O O O O (Ln O O O O (Ln O O O O (Ln O O O O (Lq (JH O O O) (Lq (Jb O) (Ln O O O O (Ln O O O O ?_)))))))))
   refine Ln O O O O (Ln O O O O (Ln O O O O (Lq (JH O O O) (Je (Jf (JQ O O (Jc (Ja (Lq (Jd O) (Je (Jf (Jn (Jr ?_)))))))))))))
   refine ⟨_,[],[],fun Z w hs=> .tmp O .nil,?_,fun Z w hs=>hs.out (Sd2 (Sr)) (fun _ h=>h)⟩
   refine ⟨⟨_,O,fun e=> ?_⟩,O,O⟩
   subst e
   first | (simp_all [str_beq.2 rfl];done) | simp_all
  ·refine Lg O O O g17 (Jh (o':=7) Un47 O ti3 O O) (Lg O O O g17 (Jj Un3 O O (Ji (Jm)) O) (Lg O O O g17 (Jh (o':=7) Un47 O ti3 O O) (Lg O O O g17 (Jj Un3 O O Jm O) (Lg O O O g17 (Kp O O) (Lq (JA O g17 O) (Lq (Jb O) (JU (t:=24) O (fun g24=> ?_) (fun g24=> ?_))))))))
   ·refine Ln O O O g24 (Ln O O O g24 (Ln O O O g24 (Ln O O O g24 (Ln O O O g24 (Lq (JH O g24 O) (Lq (Jb O) (Ln O O O O (Ln O O O O (Ln O O O O ?_)))))))))
    refine Ln O O O O (Ln O O O O (Lq (JH O O O) (Lq (Jb O) (Ln O O O O (Ln O O O O (Ln O O O O (Ln O O O O (Ln O O O O (Lq (JH O O O) ?_)))))))))
    refine Lq (Jb O) (Ln O O O O (Ln O O O O (Ln O O O O (Ln O O O O (Ln O O O O (Lq (JH O O O) (Je (Jf (JQ O O (Jc (Ja (Lq (Jd O) (Je (Jf (Jn (Jr ?_))))))))))))))))
    refine ⟨_,[],[],fun Z w hs=> .tmp O .nil,?_,fun Z w hs=>hs.out (Sd2 (Sr)) (fun _ h=>h)⟩
    refine ⟨⟨_,O,fun e=> ?_⟩,O,O⟩
    subst e
    first | (simp_all [str_beq.2 rfl];done) | simp_all
   ·refine Lg O O O g24 (Jh (o':=8) Un47 O ti3 O O) (Lg O O O g24 (Jj Un3 O O (Ji (Jm)) O) (Lg O O O g24 (Jh (o':=8) Un47 O ti3 O O) (Lg O O O g24 (Jj Un3 O O Jm O) (Lg O O O g24 (Kp O O) (Lq (JA O g24 O) (Lq (Jb O) (JU (t:=31) O (fun g31=> ?_) (fun g31=> ?_))))))))
    ·refine Ln O O O g31 (Ln O O O g31 (Ln O O O g31 (Ln O O O g31 (Ln O O O g31 (Lq (JH O g31 O) (Lq (Jb O) (Ln O O O O (Ln O O O O (Ln O O O O ?_)))))))))
     refine Ln O O O O (Ln O O O O (Lq (JH O O O) (Lq (Jb O) (Ln O O O O (Ln O O O O (Ln O O O O (Ln O O O O (Ln O O O O (Lq (JH O O O) ?_)))))))))
     refine Je (Jf (JQ O O (Jc (Ja (Lq (Jd O) (Je (Jf (Jn (Jr ?_)))))))))
     refine ⟨_,[],[],fun Z w hs=> .tmp O .nil,?_,fun Z w hs=>hs.out (Sd2 (Sr)) (fun _ h=>h)⟩
     refine ⟨⟨_,O,fun e=> ?_⟩,O,O⟩
     subst e
     first | (simp_all [str_beq.2 rfl];done) | simp_all
    ·refine Lg O O O g31 (Jh (o':=9) Un47 O ti3 O O) (Lg O O O g31 (Jj Un3 O O (Ji (Jm)) O) (Lg O O O g31 (Jh (o':=9) Un47 O ti3 O O) (Lg O O O g31 (Jj Un3 O O Jm O) (Lg O O O g31 (Kp O O) (Lq (JA O g31 O) (Lq (Jb O) (JU (t:=38) O (fun g38=> ?_) (fun g38=> ?_))))))))
     ·refine Ln O O O g38 (Ln O O O g38 (Ln O O O g38 (Ln O O O g38 (Ln O O O g38 (Lq (JH O g38 O) (Lq (Jb O) (Ln O O O O (Ln O O O O (Ln O O O O ?_)))))))))
      refine Ln O O O O (Ln O O O O (Lq (JH O O O) (Je (Jf (JQ O O (Jc (Ja (Lq (Jd O) (Je (Jf (Jn (Jr ?_))))))))))))
      refine ⟨_,[],[],fun Z w hs=> .tmp O .nil,?_,fun Z w hs=>hs.out (Sd2 (Sr)) (fun _ h=>h)⟩
      refine ⟨⟨_,O,fun e=> ?_⟩,O,O⟩
      subst e
      first | (simp_all [str_beq.2 rfl];done) | simp_all
     ·refine Lg O O O g38 (Jh (o':=10) Un47 O ti3 O O) (Lg O O O g38 (Jj Un3 O O (Ji (Jm)) O) (Lg O O O g38 (Jh (o':=10) Un47 O ti3 O O) (Lg O O O g38 (Jj Un3 O O Jm O) (Lg O O O g38 (Kp O O) (Lq (JA O g38 O) (Lq (Jb O) (JU (t:=45) O (fun g45=> ?_) (fun g45=> ?_))))))))
      ·refine Ln O O O g45 (Ln O O O g45 (Ln O O O g45 (Ln O O O g45 (Ln O O O g45 (Lq (JH O g45 O) (Je (Jf (JQ O O (Jc (Ja (Lq (Jd O) (Je (Jf (Jn (Jr ?_)))))))))))))))
       refine ⟨_,[],[],fun Z w hs=> .tmp O .nil,?_,fun Z w hs=>hs.out (Sd2 (Sr)) (fun _ h=>h)⟩
       refine ⟨⟨_,O,fun e=> ?_⟩,O,O⟩
       subst e
       first | (simp_all [str_beq.2 rfl];done) | simp_all
      ·refine Lg O O O g45 (Jh (o':=11) Un47 O ti3 O O) (Lg O O O g45 (Jj Un3 O O (Ji (Jm)) O) (Lg O O O g45 (Jh (o':=11) Un47 O ti3 O O) (Lg O O O g45 (Jj Un3 O O Jm O) (Lg O O O g45 (Kp O O) (Lq (JA O g45 O) (Je (Jf (Jy O (fun h51=> ?_) (fun h51=> ?_)))))))))
       ·refine Jc (Ja (Lq (Jd O) (Je (Jf (Jn (Jr ?_))))))
        refine ⟨_,[],[],fun Z w hs=> .tmp O .nil,?_,fun Z w hs=>hs.out (Sd2 (Sr)) (fun _ h=>h)⟩
        refine ⟨⟨_,O,fun e=> ?_⟩,O,O⟩
        subst e
        first | (simp_all [str_beq.2 rfl];done) | simp_all
       ·refine Jp (Jf (Jc (Ja (Lq (Jh (o':=1) Un47 O ZR O O) (Lq (Jj Un43 O O (Ji (Jm)) O) (Lq (Jh (o':=1) Un47 O ZR O O) (Lq (Jj Un43 O O Jm O) (Jg O (Jo (sameRuns_b S1.A1 S2.A1 S1.c1 S2.c1 (runsF D1.X) (runsF D2.X) hl1 hl2) (.n2 O O) (by decide) (Jl Mm0 (Jl Mm5 Jx)) fun _ _ _ q9=>?_)))))))))
        obtain ⟨⟨ba,rfl,hba⟩,rfl,rfl⟩:=q9
        refine Lq (Jb O) (JU (t:=57) O (fun g57=> ?_) (fun g57=> ?_))
        ·refine Lg O O O g57 (Jh (o':=2) Un47 O YV O O) (Lg O O O g57 (Jj Un44 O O (Ji (Jm)) O) (Lg O O O g57 (Jh (o':=2) Un47 O YV O O) (Lg O O O g57 (Jj Un44 O O Jm O) (Kk O O O g57 (Jo (sameOps_b S1.A2 S2.A2 S1.c2 S2.c2 D1.H.ops D2.H.ops (by omega) (by omega) hf1 hf2) (.n2 O O) (by decide) (Jl Mm1 (Jl Mm6 Jx)) fun _ _ _ q9=>?_)))))
         obtain ⟨⟨bb,rfl,hbb⟩,rfl,rfl⟩:=q9
         refine Lq (JH O g57 O) (Lq (Jb O) (JU (t:=64) O (fun g64=> ?_) (fun g64=> ?_)))
         ·refine Lg O O O g64 (Jh (o':=3) Un47 O YV O O) (Lg O O O g64 (Jj Un44 O O (Ji (Jm)) O) (Lg O O O g64 (Jh (o':=3) Un47 O YV O O) (Lg O O O g64 (Jj Un44 O O Jm O) (Kk O O O g64 (Jo (sameOps_b S1.A3 S2.A3 S1.c3 S2.c3 (D1.H.ops.drop D1.got) (D2.H.ops.drop D2.got) (by rw [List.length_drop];omega) (by rw [List.length_drop];omega) (fun o ho=>hf1 o (List.mem_of_mem_drop ho)) (fun o ho=>hf2 o (List.mem_of_mem_drop ho))) (.n2 O O) (by decide) (Jl Mm2 (Jl Mm7 Jx)) fun _ _ _ q9=>?_)))))
          obtain ⟨⟨bc,rfl,hbc⟩,rfl,rfl⟩:=q9
          refine Lq (JH O g64 O) (Lq (Jb O) (JU (t:=71) O (fun g71=> ?_) (fun g71=> ?_)))
          ·refine Lg O O O g71 (Jh (o':=4) Un47 O Qg O O) (Lg O O O g71 (Jj Un45 O O (Ji (Jm)) O) (Lg O O O g71 (Jh (o':=4) Un47 O Qg O O) (Lg O O O g71 (Jj Un45 O O Jm O) (Kk O O O g71 (Jo (sameIDs_b S1.A4 S2.A4 S1.c4 S2.c4 D1.U D2.U (by omega) (by omega)) (.n2 O O) (by decide) (Jl Mm3 (Jl Mm8 Jx)) fun _ _ _ q9=>?_)))))
           obtain ⟨⟨bd,rfl,hbd⟩,rfl,rfl⟩:=q9
           refine Lq (JH O g71 O) (Lq (Jb O) (JU (t:=78) O (fun g78=> ?_) (fun g78=> ?_)))
           ·refine Lg O O O g78 (Jh (o':=5) Un47 O Qg O O) (Lg O O O g78 (Jj Un45 O O (Ji (Jm)) O) (Lg O O O g78 (Jh (o':=5) Un47 O Qg O O) (Lg O O O g78 (Jj Un45 O O Jm O) (Kk O O O g78 (Jo (sameIDs_b S1.A5 S2.A5 S1.c5 S2.c5 D1.R D2.R (by omega) (by omega)) (.n2 O O) (by decide) (Jl Mm4 (Jl Mm9 Jx)) fun _ _ _ q9=>?_)))))
            obtain ⟨⟨be,rfl,hbe⟩,rfl,rfl⟩:=q9
            refine Lq (JH O g78 O) (Lq (Jd O) (Je (Jf (Jn ?_))))
            refine ⟨_,[],[],fun Z w hs=> .tmp O .nil,?_,fun Z w hs=>hs.out (Sd2 (Sr)) (fun _ h=>h)⟩
            refine ⟨⟨_,O,fun e=> ?_⟩,O,O⟩
            subst e
            first | (simp_all [str_beq.2 rfl];done) | simp_all
           ·refine Ln O O O g78 (Ln O O O g78 (Ln O O O g78 (Ln O O O g78 (Ln O O O g78 (Lq (JA O g78 O) (Lq (Jd O) (Je (Jf (Jn ?_)))))))))
            refine ⟨_,[],[],fun Z w hs=> .tmp O .nil,?_,fun Z w hs=>hs.out (Sd2 (Sr)) (fun _ h=>h)⟩
            refine ⟨⟨_,O,fun e=> ?_⟩,O,O⟩
            subst e
            first | (simp_all [str_beq.2 rfl];done) | simp_all
          ·refine Ln O O O g71 (Ln O O O g71 (Ln O O O g71 (Ln O O O g71 (Ln O O O g71 (Lq (JA O g71 O) (Lq (Jb O) (Ln O O O O (Ln O O O O (Ln O O O O ?_)))))))))
           refine Ln O O O O (Ln O O O O (Lq (JA O O O) (Lq (Jd O) (Je (Jf (Jn ?_))))))
           refine ⟨_,[],[],fun Z w hs=> .tmp O .nil,?_,fun Z w hs=>hs.out (Sd2 (Sr)) (fun _ h=>h)⟩
           refine ⟨⟨_,O,fun e=> ?_⟩,O,O⟩
           subst e
           first | (simp_all [str_beq.2 rfl];done) | simp_all
         ·refine Ln O O O g64 (Ln O O O g64 (Ln O O O g64 (Ln O O O g64 (Ln O O O g64 (Lq (JA O g64 O) (Lq (Jb O) (Ln O O O O (Ln O O O O (Ln O O O O ?_)))))))))
          refine Ln O O O O (Ln O O O O (Lq (JA O O O) (Lq (Jb O) (Ln O O O O (Ln O O O O (Ln O O O O (Ln O O O O (Ln O O O O (Lq (JA O O O) ?_)))))))))
          refine Lq (Jd O) (Je (Jf (Jn ?_)))
          refine ⟨_,[],[],fun Z w hs=> .tmp O .nil,?_,fun Z w hs=>hs.out (Sd2 (Sr)) (fun _ h=>h)⟩
          refine ⟨⟨_,O,fun e=> ?_⟩,O,O⟩
          subst e
          first | (simp_all [str_beq.2 rfl];done) | simp_all
        ·refine Ln O O O g57 (Ln O O O g57 (Ln O O O g57 (Ln O O O g57 (Ln O O O g57 (Lq (JA O g57 O) (Lq (Jb O) (Ln O O O O (Ln O O O O (Ln O O O O ?_)))))))))
         refine Ln O O O O (Ln O O O O (Lq (JA O O O) (Lq (Jb O) (Ln O O O O (Ln O O O O (Ln O O O O (Ln O O O O (Ln O O O O (Lq (JA O O O) ?_)))))))))
         refine Lq (Jb O) (Ln O O O O (Ln O O O O (Ln O O O O (Ln O O O O (Ln O O O O (Lq (JA O O O) (Lq (Jd O) (Je (Jf (Jn ?_))))))))))
         refine ⟨_,[],[],fun Z w hs=> .tmp O .nil,?_,fun Z w hs=>hs.out (Sd2 (Sr)) (fun _ h=>h)⟩
         refine ⟨⟨_,O,fun e=> ?_⟩,O,O⟩
         subst e
         first | (simp_all [str_beq.2 rfl];done) | simp_all
theorem ZA (A B:List Ce) (rs:List Int):K6 [⟨(A.length:Nat),(A.length:Nat)+(rs.length:Nat)⟩] 1 (A++(cellsOf rs 0++B))=A++(cellsOf rs 1++B):=by
 show Vl _ _ _=_
 unfold Vl
 have e1:((A.length:Nat):Int).toNat=A.length:=Int.toNat_natCast _
 have e2:(((A.length:Nat):Int)+(rs.length:Nat)-(A.length:Nat)).toNat=rs.length:=by omega
 have e3:(((A.length:Nat):Int)+(rs.length:Nat)).toNat=(A++cellsOf rs 0).length:=by rw [List.length_append,Ju];omega
 simp only [e1,e2,e3]
 rw [List.take_left,List.drop_left,List.take_left' (Ju rs 0)]
 have e5:(A++(cellsOf rs 0++B)).drop (A++cellsOf rs 0).length=B:=by rw [←List.append_assoc,List.drop_left]
 rw [e5]
 have e4:up 1 (cellsOf rs 0)=cellsOf rs 1:=by unfold up cellsOf;rw [List.map_map];rfl
 rw [e4]
theorem Hx (rs:List Int):K3 (cellsOf rs 1)= [] :=by
 unfold K3 cellsOf
 rw [List.filter_map,List.map_map]
 have:(rs.filter ((fun c:Ce=>decide (c.2=0)) ∘ fun c=>(c,1)))= [] :=by
  apply List.filter_eq_nil_iff.2
  intro a _;simp
 rw [this];rfl
structure UndoI (D:DS) (p k:Nat) (D3:DS) (j:Nat):Prop where
 hx:(upF (J0 D3.H true) D3.U D3.R).1=some (D.u,(D.made:Int)+1)
 tud:TuD (undoD D3) D.u ((D.made:Int)+1) false j
 vis:K3 (statD (undoD D3) (D.u,(D.made:Int)+1) false j).X=K3 D.X
 crt:J8 ((statD (undoD D3) (D.u,(D.made:Int)+1) false j).X.take (statD (undoD D3) (D.u,(D.made:Int)+1) false j).gap)=p
theorem ins_undo {D:DS} (hv:DV D) (hm:D.made<1000) (hn:D.H.ops.length<890) {p k:Nat} (hk:Pth D.X p k) {text:ByteArray} (hu:(utF text).2.2=0) (hu1:1≤(utF text).1∧(utF text).1≤5): ∃j,UndoI D p k (insD D k text) j:=by
 have g:=hv.ins (by omega) (by omega) hk.le hu (by omega)
 have M:=g.mkd hv.di (by omega)
 have ho:=KO D.H
 have he:=(end_ins hv.di.hv (o:=insO D k text) (by rw [←ho];exact g) rfl).2
 rw [←ho] at he
 have hru:=Y5 hu
 have hw:JC (insO D k text)=(KH text).length:=by
  unfold JC;rw [if_pos (show (insO D k text).kind=1 from rfl)];show (utF text).1=_;omega
 have he2:(insD D k text).H.ents=D.H.ents.map (shiftE (insO D k text).at_ (JC (insO D k text)))++ [⟨insO D k text,[⟨(insO D k text).at_,(insO D k text).at_+JC (insO D k text)⟩],false⟩] :=he
 have hv3:=(hv.insD M hu1).1
 have hj:D.H.ents.length<(insD D k text).H.ents.length:=by rw [he2];simp
 have hej:(insD D k text).H.ents[D.H.ents.length] =⟨insO D k text,[⟨(k:Int),(k:Int)+((KH text).length:Nat)⟩],false⟩:=by
  simp only [he2]
  rw [List.getElem_append_right (by simp)]
  simp only [List.length_map,Nat.sub_self,List.getElem_cons_zero,hw]
  rfl
 have hwh:=VQ hv3.di.hv.ids hj
 have hc:((insD D k text).H.ents[D.H.ents.length]).op.c=D.u:=by rw [hej];rfl
 have hn2:((insD D k text).H.ents[D.H.ents.length]).op.n=(D.made:Int)+1:=by rw [hej];rfl
 rw [hc,hn2] at hwh
 have hk4:((insD D k text).H.ents[D.H.ents.length]).op.kind≠4:=by rw [hej];show (1:Int)≠4;decide
 have hoff:((insD D k text).H.ents[D.H.ents.length]).off=false:=by rw [hej]
 have hst:J0 (insD D k text).H true (D.u,(D.made:Int)+1)=true:=by
  rw [QP hwh hj,hoff];simp [hk4]
 have hU:(insD D k text).U=D.U++ [(D.u,(D.made:Int)+1)] :=rfl
 have hpk:pickF (J0 (insD D k text).H true) (insD D k text).U=some (D.U.length,(D.u,(D.made:Int)+1)):=by
  rw [hU]
  have:=X5 (ok:=J0 (insD D k text).H true) (l:=D.U++ [(D.u,(D.made:Int)+1)]) (k:=D.U.length) (by simp) (by simpa using hst) (fun j hj hlt=>by simp at hj;omega)
  simpa using this
 have hx:(upF (J0 (insD D k text).H true) (insD D k text).U (insD D k text).R).1=some (D.u,(D.made:Int)+1):=by unfold upF;rw [hpk]
 have hv1:DV (undoD (insD D k text)):=hv3.turned rfl rfl rfl rfl rfl (fun x hx=>by
  rcases List.mem_append.1 hx with hx | hx
  ·exact List.mem_append.2 (XA (.inl hx))
  ·exact List.mem_append.2 (XA (.inr hx)))
 have hol:(insD D k text).H.ops.length=D.H.ops.length+1:=by
  show (mkH D (insO D k text)).ops.length=_
  rw [M.ops];simp
 have htu:TuD (undoD (insD D k text)) D.u ((D.made:Int)+1) false D.H.ents.length:=hv1.tud (by show D.made+1<1024;omega) (by show (insD D k text).H.ops.length<8192;omega) hwh hj hk4 false hoff
 have g4:=hv1.stat (by show D.made+1<1024;omega) (by show (insD D k text).H.ops.length<8192;omega) hwh hj hk4 false
 have hsr:=stat_row hv1.di g4 hj hwh hoff
 have hkl:(D.X.take k).length=k:=by rw [List.length_take];have:=hk.le;omega
 have hX3:(insD D k text).X=D.X.take k++(cellsOf (KH text) 0++D.X.drop k):=ins_row hv.di g
 have hX4:(statD (undoD (insD D k text)) (D.u,(D.made:Int)+1) false D.H.ents.length).X=D.X.take k++(cellsOf (KH text) 1++D.X.drop k):=by
  show J6 _ _=_
  rw [hsr]
  show K6 ((insD D k text).H.ents[D.H.ents.length]).now _ (insD D k text).X=_
  rw [hX3]
  have hs:(if (decide (((undoD (insD D k text)).H.ents[D.H.ents.length]).op.kind=2)==false)=true then (1:Int) else -1)=1:=by
   have:((undoD (insD D k text)).H.ents[D.H.ents.length]).op.kind=1:=by show ((insD D k text).H.ents[D.H.ents.length]).op.kind=1;rw [hej];rfl
   rw [this];rfl
  rw [hs,hej]
  have:=ZA (D.X.take k) (D.X.drop k) (KH text)
  rw [hkl] at this
  exact this
 have hgap:(statD (undoD (insD D k text)) (D.u,(D.made:Int)+1) false D.H.ents.length).gap=k:=by
  show turnGap _ (entryF (mkH (undoD (insD D k text)) (statO (undoD (insD D k text)) (D.u,(D.made:Int)+1) false)) (D.H.ents.length:Nat)).1 false=k
  rw [Yj htu.hj]
  have ho3:=KO (undoD (insD D k text)).H
  have hee:=(end_stat hv1.di.hv (o:=statO (undoD (insD D k text)) (D.u,(D.made:Int)+1) false) (by rw [←ho3];exact g4) rfl hj hwh hoff).2
  rw [←ho3] at hee
  have hee2:(mkH (undoD (insD D k text)) (statO (undoD (insD D k text)) (D.u,(D.made:Int)+1) false)).ents=(insD D k text).H.ents.set D.H.ents.length (offE (insD D k text).H.ents[D.H.ents.length] true)++ [⟨statO (undoD (insD D k text)) (D.u,(D.made:Int)+1) false,[],false⟩] :=hee
  have hek:(mkH (undoD (insD D k text)) (statO (undoD (insD D k text)) (D.u,(D.made:Int)+1) false)).ents[D.H.ents.length]'htu.hj=offE (insD D k text).H.ents[D.H.ents.length] true:=by
   simp only [hee2]
   rw [List.getElem_append_left (by simpa using hj),List.getElem_set_self]
  rw [hek,hej]
  rfl
 refine ⟨D.H.ents.length,hx,htu,?_,?_⟩
 ·rw [hX4,Yk,Yk (cellsOf _ _),Hx,List.nil_append,←Yk,List.take_append_drop]
 ·rw [hgap,hX4]
  conv=>lhs;arg 1;rw [show k=(D.X.take k).length from hkl.symm]
  rw [hkl,List.take_left' hkl,hk.ct]
def abcB:ByteArray:=⟨#[97,98,99]⟩
def xB:ByteArray:=⟨#[88]⟩
theorem ut_abc:utF abcB=(3,0,0):=by
 show utAt ⟨#[97,98,99]⟩ 0 0=_
 rw [Xy (r:=97) (w:=1) (by decide) (by decide) (by decide) (by decide),Xy (r:=98) (w:=1) (by decide) (by decide) (by decide) (by decide),Xy (r:=99) (w:=1) (by decide) (by decide) (by decide) (by decide),utAt_end (by decide)];rfl
theorem ut_x:utF xB=(1,0,0):=by
 show utAt ⟨#[88]⟩ 0 0=_
 rw [Xy (r:=88) (w:=1) (by decide) (by decide) (by decide) (by decide),utAt_end (by decide)];rfl
theorem rn_end {s:ByteArray} {p:Nat} (h: ¬p<s.size):runesAt s p= [] :=by rw [runesAt,dif_neg h]
theorem rn_abc:KH abcB= [97,98,99] :=by
 show runesAt ⟨#[97,98,99]⟩ 0=_
 rw [XG (r:=97) (w:=1) (by decide) (by decide),XG (r:=98) (w:=1) (by decide) (by decide),XG (r:=99) (w:=1) (by decide) (by decide),rn_end (by decide)];rfl
theorem rn_x:KH xB= [88] :=by
 show runesAt ⟨#[88]⟩ 0=_
 rw [XG (r:=88) (w:=1) (by decide) (by decide),rn_end (by decide)];rfl
def awX1:List Ce:= [(97,0),(98,0),(99,0)]
def awX2:List Ce:= [(97,0),(98,1),(99,0)]
theorem aw_k0 {k:Nat} (h:Pth [] 0 k):k=0:=Nat.le_zero.1 h.le
theorem aw_k2 {k:Nat} (h:Pth awX2 1 k):k=2:=by
 have h1:k≤3:=h.le
 have h2:=h.ct
 have h3:=h.at_ (by decide)
 match k,h1 with
 | 0,_=>exact absurd h2 (by decide)
 | 1,_=>obtain ⟨r,h3⟩:=h3;exact absurd (show some (1:Int)=some 0 from congrArg (Option.map fun c:Ce=>c.2) h3) (by decide)
 | 2,_=>rfl
 | 3,_=>obtain ⟨r,h3⟩:=h3;exact absurd (show (none:Option Int)=some 0 from congrArg (Option.map fun c:Ce=>c.2) h3) (by decide)
theorem aw_x2 {xs:List Rg} (h:VisR 1 1 awX1 xs):K6 xs 1 awX1=awX2:=by
 have hb:=YH (k:=1) xs 0 awX1 (Int.le_refl _) h.pls.norm h.pls.below
 have hp:KA xs= [1] :=by rw [h.pl];decide
 have hin: ∀q:Int,inRb q xs=decide (q=1):=fun q=>by
  have:inRb q xs=true↔q=1:=by rw [YB,←mem_places,hp];simp
  by_cases e:q=1
  ·rw [this.2 e];simp [e]
  ·rw [decide_eq_false e]
   cases hh:inRb q xs with
   | false=>rfl
   | true=>exact absurd (this.1 hh) e
 apply List.ext_getElem?
 intro q
 rw [hb.2 q,hin]
 match q with
 | 0=>rfl
 | 1=>rfl
 | 2=>rfl
 | q+3=>rfl
theorem aw_t3:textF (awX2.take 2++(cellsOf [88] 0++awX2.drop 2))=⟨#[97,88,99]⟩:=rfl
theorem text_vis {X Y:List Ce} (h:K3 X=K3 Y):textF X=textF Y:=by unfold textF vbs;rw [h]
theorem aw_t4:textF awX2=⟨#[97,99]⟩:=rfl
theorem DV.zero {u:Int} (hu:1≤u∧u≤8) (cl ce op:Int):DV (zeroD u cl ce op):=
 ⟨hu,nofun,nofun,fun x hx=>(by rw [List.eq_of_mem_replicate hx];exact ⟨Int.le_refl _,Int.natCast_nonneg _⟩),nofun,DI.zero,rfl⟩
structure BdN (k:Nat) (D:DS):Prop where
 n:D.H.ops.length+k≤700
 m:D.made+k≤700∧(D.made:Int)+k<D.op
 c:5*((D.H.ops.length:Int)+k)≤D.ce
theorem BdN.bd {q:Nat} {D:DS} (h:BdN (q+1) D):Bd D:=by
 have h1:=h.n
 have h2:=h.m
 have h3:=h.c
 exact ⟨by omega,by omega,by omega⟩
theorem Acted.bdn {D D2:DS} (h:Acted D D2) {q:Nat} (hb:BdN (q+1) D):BdN q D2:=by
 obtain ⟨_,⟨_,h2,h3⟩,_,h4⟩:=h
 have b1:=hb.n
 have b2:=hb.m
 have b3:=hb.c
 rcases h4 with ⟨e1,_,e2⟩ | ⟨o,_,_,e1,e2⟩
 ·exact ⟨by rw [e1];omega,by rw [e2,h3];omega,by rw [e1,h2];omega⟩
 ·have e3:D2.H.ops.length=D.H.ops.length+1:=by rw [e1];simp
  exact ⟨by omega,by rw [e2,h3];omega,by rw [e3,h2];omega⟩
structure InsV (D:DS) (p:Nat) (text:ByteArray) (D2:DS):Prop where
 dv:DV D2
 ac:Acted D D2
 vis:K3 D2.X=(K3 D.X).take p++(KH text++(K3 D.X).drop p)
 crt:J8 (D2.X.take D2.gap)=p+(KH text).length
structure DelV (D:DS) (p n:Nat) (D2:DS):Prop where
 dv:DV D2
 ac:Acted D D2
 vis:K3 D2.X=(K3 D.X).take p++(K3 D.X).drop (p+n)
 crt:J8 (D2.X.take D2.gap)=p
theorem ins_v (M:DM) (D:DS) (ok:DkOk M D) (hv:DV D) (q:Nat) (hb:BdN (q+1) D) (p:Nat) (hp:p≤J8 D.X) (text:ByteArray) (hts:text.size≤1048576) (hu:(utF text).2.2=0) (hu1:1≤(utF text).1∧(utF text).1≤5):Sp Tryz.prog 13 [.pointer (some ⟨M.d,0,none⟩), .int .i64 p, .string text] (Kv M D) (barF::KT M D) (fun v Lo fs=> ∃(k:Nat) (M2:DM) (D2:DS),(D2=insD D k text∧Pth D.X p k∧D2.X=D.X.take k++(cellsOf (KH text) 0++D.X.drop k))∧InsV D p text D2∧BdN q D2∧M2.d=M.d∧DkOk M2 D2∧v= .tuple #[opV (insO D k text) none 0, .nilIface] ∧Lo=Kv M2 D2∧fs=KT M2 D2):=by
 have hbd:=hb.bd
 have hpu:=hv.put_ D.u
 have hbm:=hbd.m
 have hbn:=hbd.n
 have hbc:=hbd.c
 have hlm:=ok.lm
 have hru:=Y5 hu
 have hmk: ∀k,Pth D.X p k→MkD D (insO D k text):=fun k hk=>(hv.insM (by omega) (by omega) hk hu (by omega)).1
 refine (insert_0 M D ok p hp text hts hu (by omega) (by omega) (by omega) hmk hv.nU hv.nR).mono ?_
 rintro v Lo fs ⟨k,M2,hk,hd,hok,rfl,rfl,rfl⟩
 obtain ⟨h1,h2⟩:=hv.insD (hmk k hk) hu1
 obtain ⟨-,h3,h4⟩:=hv.insM (by omega) (by omega) hk hu (by omega)
 exact ⟨k,M2,insD D k text,⟨rfl,hk,ins_row hv.di (hv.ins (by omega) (by omega) hk.le hu (by omega))⟩,⟨h1,h2,h3,by rw [show (KH text).length=(utF text).1.toNat by omega];exact h4⟩,h2.bdn hb,hd,hok,rfl,rfl,rfl⟩
theorem del_v (M:DM) (D:DS) (ok:DkOk M D) (hv:DV D) (q:Nat) (hb:BdN (q+1) D) (p n:Nat) (hn0:0<n) (hpn:p+n≤J8 D.X):Sp Tryz.prog 14 [.pointer (some ⟨M.d,0,none⟩), .int .i64 p, .int .i64 n] (Kv M D) (barF::KT M D) (fun v Lo fs=> ∃(xs:List Rg) (M2:DM) (D2:DS) (A9:Option Addr) (c9:Nat),(VisR p n D.X xs∧D2.X=K6 xs 1 D.X∧D2.u=D.u)∧DelV D p n D2∧BdN q D2∧M2.d=M.d∧DkOk M2 D2∧v= .tuple #[opV (hideO D xs) A9 c9, .nilIface] ∧Lo=Kv M2 D2∧fs=KT M2 D2++ [RdF rgD A9 c9 xs]):=by
 have hbd:=hb.bd
 have hbm:=hbd.m
 have hbn:=hbd.n
 have hlm:=ok.lm
 have hmk: ∀xs,VisR p n D.X xs→MkD D (hideO D xs)∧p≤J8 (J6 (mkE D (hideO D xs)) D.X):=fun xs hx=>by
  obtain ⟨h1,h2⟩:=hv.hideM (by omega) (by omega) hn0 hpn hx
  refine ⟨h1,?_⟩
  rw [←KM,h2,List.length_append,List.length_take,KM];omega
 refine (delete_0 M D ok p n hn0 hpn (by omega) hmk hv.nU hv.nR).mono ?_
 rintro v Lo fs ⟨xs,k,M2,A9,c9,hV,hB,hd,hok,rfl,rfl,rfl⟩
 obtain ⟨h1,h2⟩:=hv.hideD k (hmk xs hV).1
 obtain ⟨-,h3⟩:=hv.hideM (by omega) (by omega) hn0 hpn hV
 exact ⟨xs,M2,hideD D xs k,A9,c9,⟨hV,hide_row hv.di (hv.hide (by omega) (by omega) hV.pls (hV.ne hn0 hpn)),O⟩,⟨h1,h2,h3,hB.ct⟩,h2.bdn hb,hd,hok,O,O,O⟩
theorem und_v (M:DM) (D:DS) (ok:DkOk M D) (hv:DV D) (q:Nat) (hb:BdN (q+1) D) (p k:Nat) (hk:Pth D.X p k) (text:ByteArray) (hu:(utF text).2.2=0) (hu1:1≤(utF text).1∧(utF text).1≤5) (M3:DM) (D3:DS) (hD3:D3=insD D k text) (ok3:DkOk M3 D3) (hb3:BdN 1 D3):Sp Tryz.prog 18 [.pointer (some ⟨M3.d,0,none⟩)] (Kv M3 D3) (barF::KT M3 D3) (fun v Lo fs=> ∃(M2:DM) (D2:DS) (o:GOp),(K3 D2.X=K3 D.X∧J8 (D2.X.take D2.gap)=p)∧M2.d=M3.d∧DkOk M2 D2∧v= .tuple #[opV o none 0, .nilIface] ∧Lo=Kv M2 D2∧fs=KT M2 D2):=by
 have hbd:=hb.bd
 have hbm:=hbd.m
 have hbn:=hbd.n
 have hb3m:=hb3.m
 obtain ⟨j,hU⟩:=ins_undo hv (by omega) (by omega) hk hu hu1
 rw [←hD3] at hU
 refine (H1 M3 D3 ok3 (by omega) D.u ((D.made:Int)+1) j hU.hx hU.tud).mono ?_
 rintro v Lo fs ⟨M2,hd,hok,rfl,rfl,rfl⟩
 exact ⟨M2,_,_,⟨hU.vis,hU.crt⟩,hd,hok,O,O,O⟩
theorem dnew_v:Sp Tryz.prog 4 [.int .i64 1, .agg #[.int .i64 2, .int .i64 100, .int .i64 100]] [] [] (fun v Lo fs=> ∃(M:DM) (D:DS),(D.X= [] ∧D.u=1∧DV D∧BdN 4 D)∧v= .tuple #[.pointer (some ⟨M.d,0,none⟩), .nilIface] ∧DkOk M D∧Lo=Kv M D∧fs=KT M D):=by
 refine (Zw 1 2 100 100 (by decide) (by decide) (by decide) (by decide)).mono ?_
 rintro v Lo fs ⟨M,rfl,hok,rfl,rfl⟩
 exact ⟨M,zeroD 1 2 100 100,⟨rfl,rfl,DV.zero (by decide) _ _ _,⟨by show 0+4≤700;omega,⟨by show 0+4≤700;omega,by show ((0:Nat):Int)+(4:Nat)<100;omega⟩,by show 5*(((0:Nat):Int)+(4:Nat))≤100;omega⟩⟩,rfl,hok,rfl,rfl⟩
theorem aw1 {D:DS} (hX:D.X= []) {k:Nat} (hk:Pth D.X 0 k) {X1:List Ce} (h:X1=D.X.take k++(cellsOf (KH abcB) 0++D.X.drop k)):X1=awX1:=by
 rw [hX] at h hk
 rw [h,aw_k0 hk,rn_abc];rfl
theorem aw3 {X:List Ce} (hX:X=awX2) {k:Nat} (hk:Pth X 1 k) {X3:List Ce} (h:X3=X.take k++(cellsOf (KH xB) 0++X.drop k)):k=2∧X3=awX2.take 2++(cellsOf [88] 0++awX2.drop 2):=by
 subst hX
 obtain rfl:=aw_k2 hk
 exact ⟨O,by rw [h,rn_x]⟩
theorem bd38_0_1_2Xg28 (x0_:Int) (x1_:Int) (x2_:Int) (w:World):(Instr.build 23 #[(0, .int .i64 x0_),(1, .int .i64 x1_),(2, .int .i64 x2_)]).run Tryz.prog w= .ok (.agg #[.int .i64 x0_, .int .i64 x1_, .int .i64 x2_]) w:=by kernel_rfl
theorem Hs:Sp Tryz.prog 5 [] [] [barF] (Is (.bool true)):=by
 refine Sp.of (n:=85) ⟨_,Tryz.func5,O,O,O,O⟩ (Nat.le_of_ble_eq_true O) fun Ps As=>Jc (Ja (Lq (Jd O) (Je (Jf (Jc (Ja (Lq (JV (.n3 O O O) (bd38_0_1_2Xg28 _ _ _)) (Jg O (Jo (dnew_v) (.n2 O O) (by decide) Jx fun _ _ _ q9=>?_)))))))))
 obtain ⟨M0,D0,⟨hX0,hu0,hv0,hb0⟩,rfl,hok0,rfl,rfl⟩:=q9
 refine Lq (Jb O) (Lq (Jk (vs:= [_,_]) O O) (Lq (Jk (vs:= [_,_]) O O) (Lq (Jd O) (Lq (Jd O) (Je (Jf (Jc (Jc (Ja (Lq (Jb O) (Lq (Yf Un29 O) (Lq (Jb O) (Lg O O O O (Jb O) ?_)))))))))))))
 refine Lg O O O O (KK Un27 O O (by simp)) (Lq (JA O O O) (Je (Jf (Jz O O (Jp (Jf (Jc (Ja (Lq (Jb O) (Jg O (JW (ins_v M0 D0 hok0 hv0 3 hb0 0 (Nat.zero_le _) abcB (by decide) (by rw [ut_abc]) (by rw [ut_abc];decide)) (.n3 O O O) (by decide) (.n8 .z .z .z .z .z .z .z .z) (Jl Mm3 (Jl Mm0 (Jl Mm1 (Jl Mm2 Jx)))) fun _ _ _ q9=>?_)))))))))))
 obtain ⟨k1,M1,D1,hE1,hI1,hb1,hd1,hok1,rfl,rfl,rfl⟩:=q9
 refine Lq (Jb O) (Lq (Jk (vs:= [_,_]) O O) (Lq (Jk (vs:= [_,_]) O O) (Jg O (Jv (cs:= [_,_,_,_,_,_,_,_,_]) JF O (by decide) fun b3=>Jg O (Jq (cs':= [_,_,_,_,_,_,_,_,_]) (vs:= [_,_,_,_,_,_,_,_,_]) JF O O O O O (Nat.le_of_ble_eq_true O) .z (Lq (Jd O) (Je (Jf (Jc (Ja (Lq (Jb O) ?_)))))))))))
 have hX1:=aw1 hX0 hE1.2.1 hE1.2.2
 rw [←hd1]
 refine Jg O (JW (del_v M1 D1 hok1 hI1.dv 2 hb1 1 1 (by decide) (by rw [hX1];decide)) (.n3 O O O) (by decide) (.n8 .z1 .z1 .z1 .z1 .z1 .z1 .z1 .z1) (Jl Mm6 (Jl Mm0 (Jl Mm1 (Jl Mm2 Jx)))) fun _ _ _ q9=>?_)
 obtain ⟨xs2,M2,D2,A2,c2,hE2,hI2,hb2,hd2,hok2,rfl,rfl,rfl⟩:=q9
 refine Lq (Jb O) (Lq (Jk (vs:= [_,_]) O O) (Lq (Jk (vs:= [_,_]) O O) (Jg O (Jv (cs:= [_,_,_,_,_,_,_,_,_]) JF O (by decide) fun b5=>Jg O (Jq (cs':= [_,_,_,_,_,_,_,_,_]) (vs:= [_,_,_,_,_,_,_,_,_]) JF O O O O O (Nat.le_of_ble_eq_true O) .z (Lq (Jd O) (Je (Jf (Jc (Ja (Lq (Jb O) ?_)))))))))))
 have hX2:D2.X=awX2:=by rw [hE2.2.1,hX1];exact aw_x2 (hX1 ▸ hE2.1)
 rw [←hd2]
 refine Jg O (JW (ins_v M2 D2 hok2 hI2.dv 1 hb2 1 (by rw [hX2];decide) xB (by decide) (by rw [ut_x]) (by rw [ut_x];decide)) (.n3 O O O) (by decide) (.n8 .z1 .z1 .z1 .z1 .z1 .z1 .z1 .z1) (Jl Mm10 (Jl Mm0 (Jl Mm1 (Jl Mm2 Jx)))) fun _ _ _ q9=>?_)
 obtain ⟨k3,M3,D3,hE3,hI3,hb3,hd3,hok3,rfl,rfl,rfl⟩:=q9
 refine Lq (Jb O) (Lq (Jk (vs:= [_,_]) O O) (Lq (Jk (vs:= [_,_]) O O) (Jg O (Jv (cs:= [_,_,_,_,_,_,_,_,_]) JF O (by decide) fun b7=>Jg O (Jq (cs':= [_,_,_,_,_,_,_,_,_]) (vs:= [_,_,_,_,_,_,_,_,_]) JF O O O O O (Nat.le_of_ble_eq_true O) .z (Lq (Jd O) (Je (Jf (Jc (Jc ?_))))))))))
 have hvl:=Kn M3.t.row
 have hwt:=hok3.wt
 have htl:=hok3.tl
 have hrow:=hok3.row
 have hpl:=hok3.pl
 obtain ⟨hk3,hX3⟩:=aw3 hX2 hE3.2.1 hE3.2.2
 rw [←hd3]
 refine Ja (Lq (Jb O) (Lq (Yf Un29 O) (Lq (Jb O) (Lg O O O O (Jb O) (Lg O O O O (Yf Un29 O) (Lq (JA O O O) (Lq (Jb O) (Lg O O O O (Jb O) (Lg O O O O (Yf Un29 O) ?_)))))))))
 refine Lq (JA O O O) (Lq (Jb O) (Lg O O O O (Jb O) (Lg O O O O (JB O) (Lg O O O O (Jh (o':=0) Un65 O Ym O O) (Kk O O O O (J4 (VZ M3.d M3.h M3.b _ _ M3.B M3.t hwt (by omega)) (.n1 O) (by decide) .z1 .z4 (Jl Mm2 Jx) fun _ _ _ q9=>?_))))))
 obtain ⟨rfl,rfl,rfl⟩:=q9
 rw [hrow,hX3,aw_t3]
 refine Lg O O O O (G1 O O) (Lq (JA O O O) (Lq (Jb O) (Lg O O O (by rw [str_beq.2 O];rfl) (Jb O) (Kk O O O (by rw [str_beq.2 O];rfl) (JW (VU M3 D3 hok3) (.n1 O) (by decide) (.n8 .z .z2 .z2 .z2 .z .z1 .z1 .z1) Jx fun _ _ _ q9=>?_)))))
 obtain ⟨rfl,rfl,rfl⟩:=q9
 rw [show D3.gap=3 by rw [hE3.1];show k3+(utF xB).1.toNat=3;rw [ut_x,hk3];rfl]
 refine Lg O O O (by rw [str_beq.2 O];rfl) (Kp O O) (Lq (JA O (by rw [str_beq.2 O];rfl) O) (Lq (Jb O) (Lg O O O (by decide) (Jb O) (Lg O O O (by decide) (JB O) (Lg O O O (by decide) (Jh (o':=0) Un65 O Ym O O) (Kk O O O (by decide) (J4 (Yi M3.d M3.b _ _ M3.h M3.B M3.t hwt) (.n1 O) (by decide) .z .z3 (Jl Mm2 Jx) fun _ _ _ q9=>?_)))))))
 obtain ⟨rfl,rfl,rfl⟩:=q9
 rw [show M3.t.row.length=4 by rw [hrow,hX3];rfl]
 refine Lg O O O (by decide) (Kp O O) (Lq (JA O (by decide) O) (Je (Jf (Jz O O (Jp (Jf (Jc (Ja (Lq (Jb O) (Jg O (JW (und_v M2 D2 hok2 hI2.dv 1 hb2 1 k3 hE3.2.1 xB (by rw [ut_x]) (by rw [ut_x];decide) M3 D3 hE3.1 hok3 hb3) (.n1 O) (by decide) (.n8 .z .z1 .z1 .z1 .z .z .z .z) (Jl Mm13 (Jl Mm0 (Jl Mm1 (Jl Mm2 Jx)))) fun _ _ _ q9=>?_)))))))))))
 obtain ⟨M4,D4,o4,hU4,hd4,hok4,rfl,rfl,rfl⟩:=q9
 refine Lq (Jb O) (Lq (Jk (vs:= [_,_]) O O) (Lq (Jk (vs:= [_,_]) O O) (Jg O (Jv (cs:= [_,_,_,_,_,_,_,_,_]) JF O (by decide) fun b9=>Jg O (Jq (cs':= [_,_,_,_,_,_,_,_,_]) (vs:= [_,_,_,_,_,_,_,_,_]) JF O O O O O (Nat.le_of_ble_eq_true O) .z (Lq (Jd O) (Je (Jf (Jc (Ja (Lq (Jb O) (Lq (XZ Un29 O) (Lq (Jb O) ?_)))))))))))))
 refine Lg O O O O (Jb O) (Lg O O O O (JB O) (Lg O O O O (Jh (o':=0) Un65 O Ym O O) ?_))
 rw [←hd4]
 refine Kk O O O O (J4 (VZ M4.d M4.h M4.b _ _ M4.B M4.t hok4.wt (by have:=hok4.tl;omega)) (.n1 O) (by decide) .z1 .z4 (Jl Mm2 Jx) fun _ _ _ q9=>?_)
 obtain ⟨rfl,rfl,rfl⟩:=q9
 rw [hok4.row,text_vis (hU4.1.trans (congrArg K3 hX2)),aw_t4]
 refine Lg O O O O (ET O O) (Lq (JH O O O) (Lq (Jb O) (Lg O O O (str_beq.2 O) (Jb O) (Kk O O O (str_beq.2 O) (JW (QJ M4 D4 hok4) (.n1 O) (by decide) (.n8 .z .z2 .z2 .z2 .z .z1 .z1 .z1) (Jl Mm16 (Jl Mm0 (Jl Mm1 (Jl Mm2 Jx)))) fun _ _ _ q9=>?_)))))
 obtain ⟨rfl,rfl,rfl⟩:=q9
 rw [hU4.2]
 refine Lg O O O (str_beq.2 O) (Ka O O) (Lq (JH O (str_beq.2 O) O) (Lq (Jd O) (Je (Jf (Jn ?_)))))
 refine ⟨_,[],[],fun Z w hs=> .tmp O .nil,?_,fun Z w hs=>hs.out (Sd12 (Sr)) Tt16⟩
 exact ⟨O,O,O⟩
structure ReI (u:Int) (n k:Nat) (M:DM) (D:DS):Prop where
 le:k≤n
 ok:DkOk M D
 dg:DG D
 us:D.u=u
theorem ReI.next {u:Int} {n k:Nat} {M M2:DM} {D D2:DS} (h:ReI u n k M D) (hk:k<n) {mk:Bool} (hc:CallD mk D D2) (ok2:DkOk M2 D2):ReI u n (k+1) M2 D2:=⟨by omega,ok2,hc.dg,hc.u.trans h.us⟩
theorem ReI.same {u:Int} {n k:Nat} {M M2:DM} {D:DS} (h:ReI u n k M D) (hk:k<n) (ok2:DkOk M2 D):ReI u n (k+1) M2 D:=⟨by omega,ok2,h.dg,h.us⟩
theorem StepG.last {D D2:DS} (h:StepG D D2) (hrc:D.got≤D.H.ops.length):0<(D2.H.ops.drop D2.got).length∧D2.H.ops.length=D.H.ops.length+1∧ ∃o:GOp,o.c=D.u∧o.n=(D.made:Int)+1∧(D2.H.ops.drop D2.got)[(D2.H.ops.drop D2.got).length-1]? =some o:=by
 obtain ⟨o,h1,h2,h3⟩:=h.ops
 have hl:D2.H.ops.length=D.H.ops.length+1:=by rw [h3];simp
 have hd:(D2.H.ops.drop D2.got).length=D.H.ops.length+1-D.got:=by rw [List.length_drop,hl,h.got]
 refine ⟨by omega,hl,o,h1,h2,?_⟩
 rw [List.getElem?_drop,h3]
 rw [h3] at hd
 rw [hd,h.got,show D.got+(D.H.ops.length+1-D.got-1)=D.H.ops.length by omega]
 simp
theorem dnew_x (u cl ce op:Int) (h: ¬((1≤cl∧cl≤8)∧(1≤ce∧ce≤4096)∧(1≤op∧op≤1024)∧(1≤u∧u≤cl))):Sp Tryz.prog 4 [.int .i64 u, .agg #[.int .i64 cl, .int .i64 ce, .int .i64 op]] [] [] (fun v Lo fs=> ∃e,FltV e∧v= .tuple #[.pointer none,e] ∧Lo= [] ∧fs= []):=by
 by_cases h1:1≤cl∧cl≤8
 ·by_cases h2:1≤ce∧ce≤4096
  ·by_cases h3:1≤op∧op≤1024
   ·exact dnew_x4 u cl ce op h1 h2 h3 (fun h4=>h ⟨h1,h2,h3,h4⟩)
   ·exact dnew_x3 u cl ce op h1 h2 h3
  ·exact dnew_x2 u cl ce op h1 h2
 ·exact dnew_x1 u cl ce op h1
theorem bd34_0_1Xi5 (x0_:Int) (x1_:Int) (w:World):(Instr.build 34 #[(0, .int .i64 x0_),(1, .int .i64 x1_)]).run Tryz.prog w= .ok (.agg #[.int .i64 x0_, .int .i64 x1_]) w:=by kernel_rfl
theorem HH (u cl ce op:Int) (B1:Option Addr) (cb:Nat) (ops:List SOp) (hl:ops.length≤140737488355328) (hb: ∀s∈ops,SoOk s):Sp Tryz.prog 3 [.agg #[.int .i64 u, .int .i64 cl, .int .i64 ce, .int .i64 op, .slice B1 ops.length cb]] [] [barF,etF,RdF soD B1 cb ops] (Is (.bool true)):=by
 refine Sp.of (n:=114) ⟨_,Tryz.func3,O,O,O,O⟩ (Nat.le_of_ble_eq_true O) fun Ps As=>Jc (Ja (Jg O (J1 (cs:= [_,_,_,_,_]) O O (by decide) fun b1=>Lq (Jd O) (Je (Jf (Jc ?_))))))
 by_cases hN:(1≤cl∧cl≤8)∧(1≤ce∧ce≤4096)∧(1≤op∧op≤1024)∧(1≤u∧u≤cl)
 ·refine Ja (Lq (Jh (o':=0) Un26 O ti3 O O) (Lq (Jj Un3 O O Jm O) (Lq (Jh (o':=1) Un26 O QO O O) (Lq (Jw (vs:= [_,_,_]) Un23 O QO O Jm O O) (Jg O (Jo (Zw u cl ce op hN.2.2.2 hN.1.2 hN.2.1 hN.2.2.1) (.n2 O O) (by decide) Jx fun _ _ _ q9=>?_))))))
  obtain ⟨M0,rfl,hok0,rfl,rfl⟩:=q9
  refine Lq (Jb O) (Lq (Jk (vs:= [_,_]) O O) (Lq (Jk (vs:= [_,_]) O O) (Lq (Jd O) (Lq (Jd O) (Je (Jf (Jc (Jc (Ja (Lq (Jb O) (Lq (Yf Un29 O) (Lq (Jb O) (Lg O O O O (Jb O) ?_)))))))))))))
  refine Lg O O O O (KK Un27 O O (by simp)) (Lq (JA O O O) (Je (Jf (Jz O O (Jp (Jf (Jc (Ja (Lq (Jd O) (Je (Jf (Jc (Jc (Ja (Lq (Jd O) (Je (Jf (JO ?_))))))))))))))))))
  refine Ki (α:=Nat×DM×DS) (fun (k,M,D)=>ops.length-k)
   (fun (k,M,D)=> [(1, .pointer (some ⟨b1,0,none⟩)),(3, .pointer (some ⟨M.d,0,none⟩)),(5, .int .i64 ((D.made:Int)+1)),(6, .int .i64 k)])
   (fun (k,M,D)=>(dkB M D::hdP M.h M.A D.H.ops.length M.cap M.m D.H.total::mpP M.m M.L::mkP M.L::rpP M.b M.B::stP M.s M.vu M.vr::M.pu::M.pr:: [(b1,JD [.int .i64 u, .int .i64 cl, .int .i64 ce, .int .i64 op, .slice B1 ops.length cb] 26)] ::Ps))
   (fun (k,M,D)=>(barF::etF::RdF soD B1 cb ops::RdF opD M.A M.cap D.H.ops::AllF M.L nowF::TrF M.B M.t::As))
   (fun (k,M,D)=>ReI u ops.length k M D)
   (0,M0,zeroD u cl ce op) ?_ (.m4 rfl rfl rfl rfl) (Sk9 (Sr)) (Jl Mm3 (Jl Mm4 (Jl Mm5 (Jl Mm0 (Jl Mm1 (Jl Mm2 Tt6)))))) ?_
  ·exact ⟨Nat.zero_le _,hok0,DG.zero ⟨hN.2.2.2.1,by have:=hN.1;have:=hN.2.2.2.2;omega⟩ cl ce op,O⟩
  ·rintro ⟨k,M,D⟩ hI
   dsimp only
   have hle:=hI.le
   have hrc:=hI.ok.rc
   refine Jc (Jc (Ja (Lq (Jb O) (Lq (Jh (o':=4) Un26 O Ja7 O O) (Lq (Jj Un24 O O (Ji (Ji (Ji (Ji (Ji (Ji (Ji (Ji (Jm))))))))) O) (Lq (J7 Un24 O) (Lq (Ku O O) (Je (Jf (Jy O (fun h41=> ?_) (fun h41=> ?_)))))))))))
   ·refine Jp (Jf (Jc (JO (Jc ?_))))
    have hk:k<ops.length:=by have h:=h41;simp only [decide_eq_true_eq] at h;omega
    refine Kh (k:=k) Mm2 (List.getElem?_eq_getElem hk) (so_open _) fun b8 q8 y8 e8=> ?_
    cases e8
    refine Ja (Lq (Jh (o':=4) Un26 O Ja7 O O) (Lq (Jj Un24 O O (Ji (Ji (Ji (Ji (Ji (Ji (Ji (Ji (Jm))))))))) O) (Lq (Jb O) (Lq (Kc Un24 H5 O O (by omega) (by omega)) (Lq (Kq (k:=0) (vs:= [_,_,_,_,_,_,_,_,_,_,_,_,_,_,_,_]) Un42 O H5 O Mm0 O O O) (Jg O (Jv (cs:= [_,_,_,_,_,_,_,_,_,_,_,_,_,_,_,_]) H5 O (by decide) fun b7=>Jg O (Jq (cs':= [_,_,_,_,_,_,_,_,_,_,_,_,_,_,_,_]) (vs:= [_,_,_,_,_,_,_,_,_,_,_,_,_,_,_,_]) H5 O O O O O (Nat.le_of_ble_eq_true O) .z (Je (Jf (Jc (Ja (Lq (Jb O) ?_)))))))))))))
    refine Jg O (JW (Zb M D hI.ok) (.n1 O) (by decide) (.n8 .z1 .z1 .z1 .z1 .z1 .z1 .z1 .z1) (Jl Mm2 (Jl Mm5 (Jl Mm6 (Jl Mm7 Jx)))) fun _ _ _ q9=>?_)
    obtain ⟨S1,rfl,rfl,rfl⟩:=q9
    unfold snapV snapC
    refine Jg O (Jv (cs:= [_,_,_,_,_,_,_,_,_,_,_,_]) YU O (by decide) fun b8=>Jg O (Jq (cs':= [_,_,_,_,_,_,_,_,_,_,_,_]) (vs:= [_,_,_,_,_,_,_,_,_,_,_,_]) YU O O O O O (Nat.le_of_ble_eq_true O) .z (Je (Jf (Jc (Ja (Lq (Jb O) (Lq (Jw (vs:= [_,_,_,_,_,_,_,_,_,_,_,_,_,_,_,_]) Un42 O H5 O (Ji (Ji (Ji (Ji (Ji (Ji (Ji (Ji (Ji (Jm)))))))))) O O) ?_))))))))
    refine Jg O (JW (Ja3 M D hI.ok hI.dg ops[k] y8.1 y8.2 (hb _ (List.getElem_mem hk))) (.n2 O O) (by decide) (.n8 .z1 .z1 .z1 .z1 .z1 .z1 .z1 .z1) (Jl Mm7 (Jl Mm10 (Jl Mm11 (Jl Mm12 (Jl Mm6 (Jl Mm8 Jx)))))) fun _ _ _ q9=>?_)
    obtain ⟨M2,D2,hc,hd2,hok2,rfl,rfl⟩:=q9
    rw [←hd2]
    refine Lq (Jd O) (Je (Jf (Jc (Ja (Lq (Jb O) (Jg O (JW (Zb M2 D2 hok2) (.n1 O) (by decide) (.n8 .z .z .z .z .z .z .z .z) (Jl Mm10 (Jl Mm0 (Jl Mm1 (Jl Mm2 Jx)))) fun _ _ _ q9=>?_)))))))
    obtain ⟨S2,rfl,rfl,rfl⟩:=q9
    unfold snapV snapC
    refine Jg O (Jv (cs:= [_,_,_,_,_,_,_,_,_,_,_,_]) YU O (by decide) fun b10=>Jg O (Jq (cs':= [_,_,_,_,_,_,_,_,_,_,_,_]) (vs:= [_,_,_,_,_,_,_,_,_,_,_,_]) YU O O O O O (Nat.le_of_ble_eq_true O) .z (Je (Jf (Jc (Ja (Lq (Jw (vs:= [_,_,_,_,_,_,_,_,_,_,_,_]) Un47 O YU O (Ji (Ji (Ji (Ji (Ji (Ji (Ji (Ji (Ji (Jm)))))))))) O O) (Lq (Jw (vs:= [_,_,_,_,_,_,_,_,_,_,_,_]) Un47 O YU O Jm O O) ?_))))))))
    refine Jg O (Jo (equal_sn M M2 D D2 S1 S2 hI.ok hok2) (.n2 O O) (by decide) (Jl Mm8 (Jl Mm9 (Jl Mm10 (Jl Mm11 (Jl Mm12 (Jl Mm0 (Jl Mm1 (Jl Mm2 (Jl Mm3 (Jl Mm4 Jx)))))))))) fun _ _ _ q9=>?_)
    obtain ⟨⟨be,rfl,hbe⟩,rfl,rfl⟩:=q9
    refine Lq (Jd O) (Je (Jf (Jc (Jc ?_))))
    rcases hc with ⟨rfl,hcd⟩ | ⟨⟨fp,rfl⟩,rfl⟩
    ·refine Ja (Lq (Jb O) (Lq (Yf Un29 O) (Lq (Jb O) (Ln O O O O (Ln O O O O (Lq (JA O O O) (Je (Jf (Jz O O (Jp (Jf (Jc (Ja (Lq (Jh (o':=0) Un42 O ti3 O O) (Lq (Jj Un3 O O (Ji (Ji (Ji (Ji (Ji (Ji (Ji (Ji (Ji (Ji (Jm))))))))))) O) ?_)))))))))))))))
     refine Lq (Yl O O) (Lq (Jb O) (JU (t:=68) O (fun g68=> ?_) (fun g68=> ?_)))
     ·refine Lg O O O g68 (Jh (o':=0) Un42 O ti3 O O) (Lg O O O g68 (Jj Un3 O O (Ji (Ji (Ji (Ji (Ji (Ji (Ji (Ji (Ji (Ji (Jm))))))))))) O) (Lg O O O g68 (YK O O) (Lq (JH O g68 O) (Lq (Jb O) (JU (t:=73) O (fun g73=> ?_) (fun g73=> ?_))))))
      ·refine Lg O O O g73 (Jh (o':=0) Un42 O ti3 O O) (Lg O O O g73 (Jj Un3 O O (Ji (Ji (Ji (Ji (Ji (Ji (Ji (Ji (Ji (Ji (Jm))))))))))) O) (Lg O O O g73 (Kp O O) (Lq (JH O g73 O) (Lq (Jd O) (Je (Jf (Jc (Ja (Lq (Jb O) (Lq (XZ Un29 O) (Lq (Jb O) (Lg O O O O (Jb O) ?_))))))))))))
       refine Lq (JH O O O) (Je (Jf (Jy O (fun h82=> ?_) (fun h82=> ?_))))
       ·refine Jc (Ja (Lq (Jh (o':=3) Un47 O YV O O) (Lq (Jj Un44 O O Jm O) (Lq (Jd O) (Je (Jf (Jc (Jc ?_))))))))
        obtain ⟨a1,k1,a2,k2,a3,k3,a4,k4,a5,k5⟩:=S2
        dsimp only
        have hmk:madeK ops[k].kind=true:=by
         unfold madeK
         refine decide_eq_true ?_
         simp at g68 g73 h82
         exact ⟨g68,g73,h82⟩
        have hst:=hcd.made hmk
        obtain ⟨hpos,hlen,ol,hol1,hol2,hol3⟩:=hst.last hI.ok.rc
        have hle2:=hok2.di.le
        have hdl:(D2.H.ops.drop D2.got).length≤D2.H.ops.length:=by rw [List.length_drop];omega
        refine Kh (k:=((D2.H.ops.drop D2.got).length-1)) Mm2 hol3 (op_open _) fun b18 q18 y18 e18=> ?_
        cases e18
        refine JI _ _ [] (.c 0 0 (.c 1 0 (.c 2 0 (.c 3 0 (.c 4 0 (.c 5 0 (.c 6 0 (.c 7 0 (.c 8 0 (.c 9 0 (.c 10 0 (.c 11 0 (.c 12 0 (.c 13 0 (.c 14 0 (.c 15 0 (.c 16 0 (.c 17 0 (.c 18 0 (.c 19 0 (.c 20 0 (.c 21 0 (.c 22 0 (.c 23 0 (.c 24 0 (.c 25 0 .nil)))))))))))))))))))))))))) mixed (fun _ _ _ _ h=>h) (Sk12 (Sr)) (fun _ h=>h) (by kernel_rfl) (by decide) fun ws Z0=>Qe O (Jb O) (Qe O (J7 Un44 O) (Qe O (Ka O O) (Qe O (Jb O) (Kl O O O O (decide_eq_false (by omega)) (Jb O) (by decide) ?_))))
        refine Kl O O O O (decide_eq_false (by omega)) (Jb O) (by decide) (Kl O O O O (decide_eq_false (by omega)) (J7 Un44 O) (by decide) (Kl O O O O (decide_eq_false (by omega)) (KS O O (by rw [wr64 (by omega)];omega) (c:=(((D2.H.ops.drop D2.got).length-1:Nat):Int))) (by decide) (Kl O O O O (decide_eq_false (by omega)) (Kc Un44 JF O O (by omega) (by omega)) (by decide) (Kl O O O O (decide_eq_false (by omega)) (Jh (o':=_+0) Un40 O KI O O) (by decide) (Kl O O O O (decide_eq_false (by omega)) (Jh (o':=_+0) Un37 O JY O O) (by decide) (Kl O O O O (decide_eq_false (by omega)) (Kq (k:=0) (vs:= [_,_]) Un34 O JY O Mm0 O O O) (by decide) ?_))))))
        refine Kl O O O O (decide_eq_false (by omega)) (Jh (o':=0) Un26 O ti3 O O) (by decide) (Kl O O O O (decide_eq_false (by omega)) (Jj Un3 O O (Ji (Ji (Ji (Ji (Ji (Ji (Ji (Ji (Ji (Ji (Ji (Jm)))))))))))) O) (by decide) (Kl O O O O (decide_eq_false (by omega)) (Jb O) (by decide) (Kl O O O O (decide_eq_false (by omega)) (JV (.n2 O O) (bd34_0_1Xi5 _ _)) (by decide) (Kl O O O O (decide_eq_false (by omega)) (Ya O O (eq34 _ _ _ _)) (by decide) (Qe O (JA O (decide_eq_false (by omega)) O) (Qe O (Jb O) (Kl O O O O (by rw [hol1,hol2,hI.us];simp) (Jh (o':=9) Un47 O ti3 O O) (by decide) ?_)))))))
        refine Kl O O O O (by rw [hol1,hol2,hI.us];simp) (Jj Un3 O O Jm O) (by decide) (Kl O O O O (by rw [hol1,hol2,hI.us];simp) (Jh (o':=9) Un47 O ti3 O O) (by decide) (Kl O O O O (by rw [hol1,hol2,hI.us];simp) (Jj Un3 O O (Ji (Ji (Ji (Ji (Ji (Ji (Ji (Ji (Ji (Jm)))))))))) O) (by decide) (Kl O O O O (by rw [hol1,hol2,hI.us];simp) (JZ O O (wr64 (by omega))) (by decide) (Kl O O O O (by rw [hol1,hol2,hI.us];simp) (Kp O O) (by decide) (Qe O (JA O (by rw [hol1,hol2,hI.us];simp) O) (JJ (JK (Jf (Jz O (by rw [hlen];simp) (Jp (Jf (Ja ?_))))))))))))
        refine Lq (Jb O) (Lq (JZ O O (wr64 (by have:=hI.ok.md;omega))) (Lq (Jd O) (Je (J9 (Jf (Ja (Lq (Jb O) (Lq (JZ O O (wr64 (by omega)) (c:=((k+1:Nat):Int))) (Lq (Jd O) (Je (Ko ?_)))))))))))
        have hmd:(D.made:Int)+1+1=(D2.made:Int)+1:=by rw [hst.made];omega
        rw [hmd]
        refine ⟨(k+1,M2,D2),?_,(.m4 O O O O),(Sd (Sk8 (Sd2 (Sk (Sr))))),(Jl Mm18 (Jl Mm19 (Jl Mm20 (Jl Mm8 (Jl Mm9 (Jl Mm10 Tt24))))))⟩
        exact ⟨by omega,hI.next hk hcd hok2⟩
       ·refine Jp (J9 (Jf (Ja (Lq (Jb O) (Lq (JZ O O (wr64 (by omega)) (c:=((k+1:Nat):Int))) (Lq (Jd O) (Je (Ko ?_))))))))
        have hmd:D2.made=D.made:=hcd.same (by
         unfold madeK
         refine decide_eq_false ?_
         simp at g68 g73 h82
         omega)
        rw [←hmd]
        refine ⟨(k+1,M2,D2),?_,(.m4 O O O O),(Sd (Sk8 (Sd2 (Sk (Sr))))),(Jl Mm15 (Jl Mm16 (Jl Mm17 (Jl Mm5 (Jl Mm6 (Jl Mm7 Tt21))))))⟩
        exact ⟨by omega,hI.next hk hcd hok2⟩
      ·refine Ln O O O g73 (Ln O O O g73 (Ln O O O g73 (Lq (JA O g73 O) (Lq (Jd O) (Je (Jf (Jc (Ja (Lq (Jb O) (Lq (XZ Un29 O) (Lq (Jb O) (Lg O O O O (Jb O) ?_))))))))))))
       refine Lq (JH O O O) (Je (Jf (Jz O O (Jp (J9 (Jf (Ja (Lq (Jb O) (Lq (JZ O O (wr64 (by omega)) (c:=((k+1:Nat):Int))) (Lq (Jd O) (Je (Ko ?_))))))))))))
       have hmd:D2.made=D.made:=hcd.same (by
        unfold madeK
        refine decide_eq_false ?_
        simp at g68 g73
        omega)
       rw [←hmd]
       refine ⟨(k+1,M2,D2),?_,(.m4 O O O O),(Sd (Sk8 (Sd2 (Sk (Sr))))),(Jl Mm15 (Jl Mm16 (Jl Mm17 (Jl Mm5 (Jl Mm6 (Jl Mm7 Tt21))))))⟩
       exact ⟨by omega,hI.next hk hcd hok2⟩
     ·refine Ln O O O g68 (Ln O O O g68 (Ln O O O g68 (Lq (JA O g68 O) (Lq (Jb O) (Ln O O O O (Ln O O O O (Ln O O O O (Lq (JA O O O) (Lq (Jd O) ?_)))))))))
      refine Je (Jf (Jc (Ja (Lq (Jb O) (Lq (XZ Un29 O) (Lq (Jb O) (Lg O O O O (Jb O) (Lq (JH O O O) (Je (Jf (Jz O O (Jp (J9 (Jf (Ja (Lq (Jb O) (Lq (JZ O O (wr64 (by omega)) (c:=((k+1:Nat):Int))) (Lq (Jd O) ?_))))))))))))))))))
      refine Je (Ko ?_)
      have hmd:D2.made=D.made:=hcd.same (by
       unfold madeK
       refine decide_eq_false ?_
       simp at g68
       omega)
      rw [←hmd]
      refine ⟨(k+1,M2,D2),?_,(.m4 O O O O),(Sd (Sk8 (Sd2 (Sk (Sr))))),(Jl Mm15 (Jl Mm16 (Jl Mm17 (Jl Mm5 (Jl Mm6 (Jl Mm7 Tt21))))))⟩
      exact ⟨by omega,hI.next hk hcd hok2⟩
    ·obtain rfl:=hbe rfl
     refine Ja (Lq (Jb O) (Lq (Y0 Un29 O O) (Lq (Jb O) (Lg O O O O (Jb O) (Lg O O O O (KC O) (Lq (JH O O O) (Je (Jf (Jz O O (Jp (Jf (Jc (Ja (Lq (Jh (o':=0) Un42 O ti3 O O) (Lq (Jj Un3 O O (Ji (Ji (Ji (Ji (Ji (Ji (Ji (Ji (Ji (Ji (Jm))))))))))) O) ?_)))))))))))))))
     refine Lq (Yl O O) (Lq (Jb O) (JU (t:=68) O (fun g68=> ?_) (fun g68=> ?_)))
     ·refine Lg O O O g68 (Jh (o':=0) Un42 O ti3 O O) (Lg O O O g68 (Jj Un3 O O (Ji (Ji (Ji (Ji (Ji (Ji (Ji (Ji (Ji (Ji (Jm))))))))))) O) (Lg O O O g68 (YK O O) (Lq (JH O g68 O) (Lq (Jb O) (JU (t:=73) O (fun g73=> ?_) (fun g73=> ?_))))))
      ·refine Lg O O O g73 (Jh (o':=0) Un42 O ti3 O O) (Lg O O O g73 (Jj Un3 O O (Ji (Ji (Ji (Ji (Ji (Ji (Ji (Ji (Ji (Ji (Jm))))))))))) O) (Lg O O O g73 (Kp O O) (Lq (JH O g73 O) (Lq (Jd O) (Je (Jf (Jc (Ja (Lq (Jb O) (Lq (EW Un29 O O) (Lq (Jb O) (Ln O O O O ?_))))))))))))
       refine Lq (JA O O O) (Je (Jf (Jz O O (Jp (J9 (Jf (Ja (Lq (Jb O) (Lq (JZ O O (wr64 (by omega)) (c:=((k+1:Nat):Int))) (Lq (Jd O) (Je (Ko ?_))))))))))))
       refine ⟨(k+1,M2,D2),?_,(.m4 O O O O),(Sd (Sk8 (Sd2 (Sk (Sr))))),(Jl Mm15 (Jl Mm16 (Jl Mm17 (Jl Mm5 (Jl Mm6 (Jl Mm7 Tt21))))))⟩
       exact ⟨by omega,hI.same hk hok2⟩
      ·refine Ln O O O g73 (Ln O O O g73 (Ln O O O g73 (Lq (JA O g73 O) (Lq (Jd O) (Je (Jf (Jc (Ja (Lq (Jb O) (Lq (EW Un29 O O) (Lq (Jb O) (Ln O O O O ?_))))))))))))
       refine Lq (JA O O O) (Je (Jf (Jz O O (Jp (J9 (Jf (Ja (Lq (Jb O) (Lq (JZ O O (wr64 (by omega)) (c:=((k+1:Nat):Int))) (Lq (Jd O) (Je (Ko ?_))))))))))))
       refine ⟨(k+1,M2,D2),?_,(.m4 O O O O),(Sd (Sk8 (Sd2 (Sk (Sr))))),(Jl Mm15 (Jl Mm16 (Jl Mm17 (Jl Mm5 (Jl Mm6 (Jl Mm7 Tt21))))))⟩
       exact ⟨by omega,hI.same hk hok2⟩
     ·refine Ln O O O g68 (Ln O O O g68 (Ln O O O g68 (Lq (JA O g68 O) (Lq (Jb O) (Ln O O O O (Ln O O O O (Ln O O O O (Lq (JA O O O) (Lq (Jd O) ?_)))))))))
      refine Je (Jf (Jc (Ja (Lq (Jb O) (Lq (EW Un29 O O) (Lq (Jb O) (Ln O O O O (Lq (JA O O O) (Je (Jf (Jz O O (Jp (J9 (Jf (Ja (Lq (Jb O) (Lq (JZ O O (wr64 (by omega)) (c:=((k+1:Nat):Int))) (Lq (Jd O) ?_))))))))))))))))))
      refine Je (Ko ?_)
      refine ⟨(k+1,M2,D2),?_,(.m4 O O O O),(Sd (Sk8 (Sd2 (Sk (Sr))))),(Jl Mm15 (Jl Mm16 (Jl Mm17 (Jl Mm5 (Jl Mm6 (Jl Mm7 Tt21))))))⟩
      exact ⟨by omega,hI.same hk hok2⟩
   ·refine Kr (JR (JR (Kg (Jf (Jc (Ja (Jg O (Jo (Hs) .nil (by decide) (Jl Mm0 Jx) fun _ _ _ q9=>?_))))))))
    obtain ⟨rfl,rfl,rfl⟩:=q9
    refine Lq (Jd O) (Je (Jf (Jn ?_)))
    refine ⟨_,[],[],fun Z w hs=> .tmp O .nil,?_,fun Z w hs=>hs.out (Sd9 (Sr)) (Jl Mm0 (Jl Mm1 (Jl Mm2 Tt6)))⟩
    exact ⟨O,O,O⟩
 ·refine Ja (Lq (Jh (o':=0) Un26 O ti3 O O) (Lq (Jj Un3 O O Jm O) (Lq (Jh (o':=1) Un26 O QO O O) (Lq (Jw (vs:= [_,_,_]) Un23 O QO O Jm O O) (Jg O (Jo (dnew_x u cl ce op hN) (.n2 O O) (by decide) Jx fun _ _ _ q9=>?_))))))
  obtain ⟨_,⟨fp,rfl⟩,rfl,rfl,rfl⟩:=q9
  refine Lq (Jb O) (Lq (Jk (vs:= [_,_]) O O) (Lq (Jk (vs:= [_,_]) O O) (Lq (Jd O) (Lq (Jd O) (Je (Jf (Jc (Jc (Ja (Lq (Jb O) (Lq (Y0 Un29 O O) (Lq (Jb O) (Ln O O O O ?_)))))))))))))
  refine Ln O O O O (Lq (JH O O O) (Je (Jf (JQ O O (Jc (Ja (Lq (Jb O) (Lq (KK Un27 O O (by simp)) (Lq (Jb O) (Lg O O O O (Jb O) (Lg O O O O (Y0 Un29 O O) (Lq (JH O O O) (Lq (Jb O) ?_)))))))))))))
  refine Kk O O O O (Jo (Hs) .nil (by decide) (Jl Mm0 Jx) fun _ _ _ q9=>?_)
  obtain ⟨rfl,rfl,rfl⟩:=q9
  refine Lq (JH O O O) (Lq (Jd O) (Je (Jf (Jn (Jr ?_)))))
  refine ⟨_,[],[],fun Z w hs=> .tmp O .nil,?_,fun Z w hs=>hs.out (Sd (Sr)) (fun _ h=>h)⟩
  exact ⟨O,O,O⟩
end Go.Proofs.YthkkklphanidjaaGreatDoor
set_option maxRecDepth 100000
namespace Go.Proofs.YthkkklphanidjaaGreatDoor.deskRefuses
open Go Go.GW Go.ChangeShapes Go.WideShapes Go.ChangeAt Go.RowKit
theorem own:ownKnob Tryz.prog.godebug=none:=by kernel_rfl
theorem contract (H:Type) (enc:TypeId×Value→H) (W:World) (base:Nat) (args:Array Value) (ds gs:List (DataW H)) (before:List MemPlace)
  (hval: ∀(j:Nat) t v,Tryz.f3.params[j]? =some t→args[j]? =some v→Value.okWide Tryz.prog W .any base t v)
  (hW:DataW.Whole enc Tryz.prog Tryz.f3.params.toList Rows.deskRefusesSpec.vars false W args.toList ds gs before) (hsz:(DataW.weightsEach Tryz.prog (Tryz.f3.params.toList++(OpenSpec.ofChange Rows.deskRefusesSpec).bare.plain.varTypes Tryz.prog) (ds++gs)).all (· ≤reachBytes)=true) (hL:laidMetH Tryz.prog Rows.deskRefusesRow.laid W):
  Calls Tryz.prog 3 args W fun e W'=> ∃v,e= .returned v∧Rows.deskRefusesSpec.post enc Tryz.prog Tryz.f3 false true false false W args v W':=by
 have hW':=hW
 have hlt:=hW.lt
 obtain ⟨p,q,hA0,hV,rfl,hfz,hnd⟩:=hW
 have hA:DataW.TrodAll enc Tryz.prog W 0 (fun _=>true) true Tryz.f3.params.toList args.toList ds p:=hA0
 rw [Tryz.params3] at hA hval
 obtain ⟨v0,d0,rfl,rfl,t0⟩:=trodAll_one hA
 obtain ⟨rfl,rfl⟩:=trodVars_none hV
 clear hA0
 obtain ⟨u0,cl0,ce0,op0,B0,cb0,ops0,rfl,hR0,hB0,hl0⟩:=script_arg (hval 0 26 v0 rfl rfl) t0 (Wt.of hsz (j:=0) (by rw [Tryz.params3];rfl) rfl)
 have hb:=ZZ hL
 have hs:=Ja9 (W:=W) (As:= [barF,etF,RdF soD B0 cb0 ops0]) (fun A hA=>by
  simp only [List.mem_cons,List.not_mem_nil,or_false] at hA
  rcases hA with rfl | rfl | rfl
  ·exact ⟨hb.1.2,hb.1.1⟩
  ·exact ⟨hb.2.2,hb.2.1⟩
  ·exact hR0)
 refine ((HH u0 cl0 ce0 op0 B0 cb0 ops0 hl0 hB0).calls _ W [] [NearF W (fun b=>b<W.heap.size)] hs).mono ?_
 rintro e W' ⟨v,rfl,Z',Lo,fs,⟨rfl,rfl,rfl⟩,h2⟩
 have hk:=h2.facts (NearF W (fun b=>b<W.heap.size)) (by simp)
 have hsame: ∀x∈p++ [],W.sameAt W' x:=fun x hx=>ZU hk (hlt x hx)
 exact ⟨_,O,post_plain (pa:=p) (pv:= []) hW' (fun _ _ _=>trodAll_cons_mk (shut_bool Un4 _) trodAll_mk0) (fun sp hsp=>trodAll_mk1 (WideElems.Trod_stays laidOk (by kernel_rfl) (of_decide_eq_true (by kernel_rfl)) t0 (fun x hx=>hsame x (by simp [hx])) (fun x hx=>hsp x (by simp [hx])))) (fun _ _=>O) O (Z6 hk _)⟩
noncomputable def laidWorld (os:Os):World:=
 { World.holding Tryz.prog os ⟨#[],#[.agg #[.int .i64 0, .int .i64 0, .int .i64 0, .int .i64 0, .slice none 0 0]],[]⟩ with heap:=(((World.holding Tryz.prog os ⟨#[],#[.agg #[.int .i64 0, .int .i64 0, .int .i64 0, .int .i64 0, .slice none 0 0]],[]⟩).heap.modify 1 fun
   | .cells _ t frozen=> .cells barC.toArray t frozen
   | o=>o).modify 0 fun
   | .cells _ t frozen=> .cells #[.iface 207 (.agg #[typeHandle Tryz.prog 29])] t frozen
   | o=>o) }
theorem laid_met (os:Os):laidMetH Tryz.prog Rows.deskRefusesRow.laid ((laidWorld os).forCall (fun _ _=>0) ⟨#[],#[.agg #[.int .i64 0, .int .i64 0, .int .i64 0, .int .i64 0, .slice none 0 0]],[]⟩).memory:=
 laidMetH_of_parts (laidMet_of_run' 8 (by kernel_rfl) (by kernel_rfl)) (by kernel_rfl)
theorem reads (os:Os) {H:Type} (enc:TypeId×Value→H): ∃places,DataW.whole enc Tryz.prog ((laidWorld os).forCall (fun _ _=>0) ⟨#[],#[.agg #[.int .i64 0, .int .i64 0, .int .i64 0, .int .i64 0, .slice none 0 0]],[]⟩).memory Tryz.f3.params.toList Rows.deskRefusesSpec.vars false (#[.agg #[.int .i64 0, .int .i64 0, .int .i64 0, .int .i64 0, .slice none 0 0]] :Array Value).toList 8=some ([.agg [.lit (.int .i64 0), .agg [.lit (.int .i64 0), .lit (.int .i64 0), .lit (.int .i64 0)], .nil]],[],places):=
 ⟨[],by kernel_rfl⟩
theorem lifted (os:Os) (started:os.Started) (H:Type) (enc:TypeId×Value→H) (F:Stop.Interp):
  ReturnsInHanded {} Tryz.checked os 3 .any ((OpenSpec.ofChange Rows.deskRefusesSpec).preRow enc Tryz.prog Tryz.f3 Rows.deskRefusesRow.domain false Rows.deskRefusesRow.laid) (((OpenSpec.ofChange Rows.deskRefusesSpec).at F).post enc Tryz.prog Tryz.f3 false true false false):=by
 obtain ⟨places,hx⟩:=reads os enc
 refine returnsInHanded_of_row (C:=Tryz.checked) (s:=OpenSpec.ofChange Rows.deskRefusesSpec) own started (by kernel_rfl) Tryz.func3
  (witness_row_at (enc:=enc) (C:=Tryz.checked) false (laidWorld os) #[.agg #[.int .i64 0, .int .i64 0, .int .i64 0, .int .i64 0, .slice none 0 0]] rfl (by kernel_rfl) (by kernel_rfl) (by kernel_rfl)
   (OpenSpec.preRow_of_cond 8 hx (by kernel_rfl) (fun k hk=>by cases hk) (by kernel_rfl) (laid_met os))) ?_
 intro W base args ds gs before hval hW _ _ hsz hL _ _
 exact contract H enc W base args ds gs before hval hW hsz hL
theorem said:Rows.DeskRefusesSaid:=
 OpenClaim.holds_of_cond 3 Tryz.f3 rfl rfl rfl rfl rfl rfl rfl ⟨rfl,rfl,rfl,rfl,rfl⟩ rfl rfl rfl rfl rfl (by kernel_rfl) Tryz.func3 (by kernel_rfl)
  (of_decide_eq_true (by kernel_rfl)) (by unfold Func.isWrapper;first | (rw [if_pos (by decide +kernel)];kernel_rfl) | (rw [if_neg (by decide +kernel)];exact ⟨rfl,rfl⟩))
  (fun os started H enc _ F=>by rw [OpenClaim.pre_eq_preRow];exact lifted os started H enc F)
theorem plain (f : FuncId) (fn : Func) (hf : Tryz.pinned.checked.prog.funcNamed "redraft/redraftlaw08.DeskRefuses" = some f) (hfn : Tryz.pinned.checked.prog.funcs[f]? = some fn) :
  true=Tryz.pinned.checked.prog.looks [] ∧ ∀(j:Nat) t,fn.params[j]? =some t→Tryz.pinned.checked.prog.wantsStandIn t=false:=by
 obtain rfl : f = 3 := Option.some.inj ((show Tryz.prog.funcNamed "redraft/redraftlaw08.DeskRefuses" = some 3 by kernel_rfl).symm.trans hf) |>.symm
 obtain rfl:fn=Tryz.f3:=(Option.some.inj (Tryz.func3.symm.trans hfn)).symm
 refine ⟨by kernel_rfl,fun j t ht=> ?_⟩
 rw [Tryz.params3] at ht
 rcases j with _ | j
 ·simp at ht;subst ht;kernel_rfl
 ·simp at ht
theorem card:Rows.DeskRefusesCardSaid:=
 Claim7.holds_tied_plain_at .later [] _ _ _ _ said (fun _ h=>by cases h) (by kernel_rfl) (fun _ h=>by cases h) deskRefuses_row_tie rfl ⟨rfl,rfl⟩ (by kernel_rfl) rfl plain (by kernel_rfl)
#print axioms card
end Go.Proofs.YthkkklphanidjaaGreatDoor.deskRefuses
