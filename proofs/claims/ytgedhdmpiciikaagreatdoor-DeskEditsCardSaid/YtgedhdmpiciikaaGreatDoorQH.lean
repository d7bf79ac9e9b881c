/- Part of the proof that this claim's law answers true, whatever its arguments. Condition: the laid variables hold what their initialisers lay (the card ties that to the program's text). -/
import Derived.WideKeyArgs
import Derived.Laws.BitsLemmas
import Derived.Lib.DecodeN
import Derived.Laws.Cover4
import Derived.Laws.IdiomStrings
import Derived.Test.YtgedhdmpiciikaaGreatDoorTie
import Derived.Test.YtgedhdmpiciikaaGreatDoorQG
set_option linter.unusedVariables false
set_option linter.unusedSimpArgs false
open Go.Proofs.Tryz renaming underlying1→Un1,underlying3→Un3,underlying4→Un4,underlying9→Un9,underlying20→Un20,underlying21→Un21,underlying22→Un22,underlying24→Un24,underlying25→Un25,underlying29→Un29,underlying30→Un30,underlying33→Un33,underlying34→Un34,underlying36→Un36,underlying38→Un38,underlying39→Un39,underlying40→Un40,underlying42→Un42,underlying43→Un43,underlying46→Un46,underlying47→Un47,underlying49→Un49,underlying50→Un50,underlying52→Un52,underlying54→Un54,underlying62→Un62,underlying67→Un67,underlying74→Un74,underlying78→Un78,underlying93→Un93,underlying98→Un98,underlying116→Un116,underlying141→Un141,underlying143→Un143,underlying145→Un145,underlying149→Un149,underlying152→Un152,underlying154→Un154,underlying156→Un156,underlying157→Un157,underlying159→Un159,underlying160→Un160,underlying162→Un162,underlying167→Un167,underlying168→Un168,underlying170→Un170,underlying178→Un178,underlying188→Un188,underlying191→Un191,underlying195→Un195,underlying196→Un196,underlying198→Un198,underlying201→Un201,underlying213→Un213,underlying219→Un219
namespace Go.GW
open Go
section
variable {H:Type} {enc:TypeId×Value→H} {P:Program} {w:World} {sp:Nat→Bool} {held:Bool}
theorem add_cell {a:Addr} {k:Nat} {v:Value} (h:w.cell? (a.add k)=some v) (hs:a.spot=none):w.cell? ⟨a.block,a.off+k,none⟩=some v:=by
 obtain ⟨b,o,s⟩:=a
 simp only at hs
 subst hs
 rwa [KO] at h
theorem Jaz (a:Addr) (i j:Nat):(a.add i).add j=a.add (i+j):=by
 unfold Addr.add
 by_cases h1:i=0
 ·subst h1;simp
 ·by_cases h2:j=0
  ·subst h2;simp [h1]
  ·have h3:i+j≠0:=by omega
   simp [h1,h2,h3,Nat.add_assoc]
theorem rd_slice {α:Type} {e:De α} {T E:TypeId} (hu:P.underlying T=some (.slice E)) (hsz:P.cellsOf E=e.sz) (h0:0<e.sz)
  (hel: ∀(m:Nat) (cs:List Value) (x:DataW H×List MemPlace),DataW.trod enc P w 0 sp held m E cs=some x→ ∃u:α,∀Z w',e.rep Z w' u cs)
  {Av:Option Addr} {lv cv n:Nat} {x:DataW H×List MemPlace} (hn:DataW.trod enc P w 0 sp held n T [.slice Av lv cv] =some x): ∃xs:List α,xs.length=lv∧(RdF e Av cv xs).holds (fun b=>b<w.heap.size) w:=by
 rcases DataW.trod_slice hu hn with ⟨h1,_⟩ | ⟨a,len,cap,elems,rest,m,_,h1,_,_,hlc,hcm,hlen,hget,_,_⟩
 ·simp only [List.cons.injEq,and_true] at h1
  obtain ⟨rfl,rfl,rfl⟩:=Value.slice.inj h1
  exact ⟨[],rfl,RdS.nil _ _ _⟩
 ·simp only [List.cons.injEq,and_true] at h1
  obtain ⟨rfl,rfl,rfl⟩:=Value.slice.inj h1
  rw [hsz] at hget
  have key: ∀i:Fin lv,∃u:α,∃cs:List Value,(∀Z w',e.rep Z w' u cs)∧cs.length=e.sz∧ ∀(k:Nat) (x:Value),cs[k]? =some x→w.cell? (a.add (i.val*e.sz+k))=some x:=by
   intro i
   have h2:=hget i.val i.isLt
   have h3:i.val<elems.length:=by omega
   rw [List.getElem?_eq_getElem h3] at h2
   obtain ⟨cs,h4,h5⟩:=Option.bind_eq_some_iff.1 h2
   obtain ⟨u,hu'⟩:=hel m cs _ h5
   unfold World.cells? at h4
   split at h4
   ·refine ⟨u,cs,hu',?_,fun k x hk=> ?_⟩
    ·have:=mapM_some_length h4;simpa using this
    ·have hlt:k<cs.length:=by
      rcases Nat.lt_or_ge k cs.length with h | h
      ·exact h
      ·rw [List.getElem?_eq_none h] at hk;cases hk
     have hl:=mapM_some_length h4
     rw [List.length_range] at hl
     have:=mapM_some_get h4 k k (by rw [List.getElem?_range (by omega)])
     rw [hk,Jaz] at this
     exact this
   ·cases h4
  by_cases hz:lv=0
  ·subst hz
   exact ⟨[],rfl,Nat.zero_le _,hcm, .inl ⟨rfl,fun h=>by cases h⟩⟩
  ·obtain ⟨f,g,hf1,hf2,hf3⟩: ∃(f:Fin lv→α) (g:Fin lv→List Value),(∀i Z w',e.rep Z w' (f i) (g i))∧(∀i,(g i).length=e.sz)∧ ∀i (k:Nat) (x:Value),(g i)[k]? =some x→w.cell? (a.add (i.val*e.sz+k))=some x:=
    ⟨fun i=>Classical.choose (key i),fun i=>Classical.choose (Classical.choose_spec (key i)),fun i=>(Classical.choose_spec (Classical.choose_spec (key i))).1,fun i=>(Classical.choose_spec (Classical.choose_spec (key i))).2.1,fun i=>(Classical.choose_spec (Classical.choose_spec (key i))).2.2⟩
   have hspot:a.spot=none∧ ∃full T fr,w.heap[a.block]? =some (.cells full T fr):=by
    have i0:0<lv:=by omega
    have h4:=hf2 ⟨0,i0⟩
    have h5: ∃x,(g ⟨0,i0⟩)[0]? =some x:=⟨_,List.getElem?_eq_getElem (by omega)⟩
    obtain ⟨x,hx⟩:=h5
    have h6:=hf3 ⟨0,i0⟩ 0 x hx
    simp only [Nat.zero_mul,Nat.zero_add] at h6
    have h7:a.add 0=a:=by unfold Addr.add;simp
    rw [h7] at h6
    unfold World.cell? at h6
    split at h6
    ·rename_i c T fr heq
     split at h6
     ·cases h6
     ·rename_i hs
      refine ⟨?_,_,_,_,heq⟩
      cases hq:a.spot with
      | none=>rfl
      | some s=>rw [hq] at hs;simp at hs
    ·cases h6
   obtain ⟨hs,full,T',fr,hblk⟩:=hspot
   have hxl:(List.ofFn f).length=lv:=by simp
   refine ⟨List.ofFn f,hxl,by rw [hxl];exact hlc,hcm, .inr ⟨a.block,a.off,List.ofFn g,?_,(Array.getElem?_eq_some_iff.1 hblk).1,?_,⟨full,T',fr,hblk,?_⟩⟩⟩
   ·obtain ⟨b,o,s⟩:=a
    simp only at hs
    subst hs;rfl
   ·have: ∀(n:Nat) (f':Fin n→α) (g':Fin n→List Value),(∀i,e.rep (fun b=>b<w.heap.size) w (f' i) (g' i))→Reps (e.rep (fun b=>b<w.heap.size) w) (List.ofFn f') (List.ofFn g'):=by
     intro n
     induction n with
     | zero=>intro f' g' _;simp;exact .nil
     | succ n ih=>intro f' g' h;rw [List.ofFn_succ,List.ofFn_succ];exact .cons (h 0) (ih _ _ fun i=>h i.succ)
    exact this lv f g fun i=>hf1 i _ _
   ·intro j x hj
    have hls: ∀cs∈List.ofFn g,cs.length=e.sz:=fun cs hcs=>by
     rw [List.mem_ofFn] at hcs
     obtain ⟨i,rfl⟩:=hcs
     exact hf2 i
    have hjl:j<(List.ofFn g).flatten.length:=by
     rcases Nat.lt_or_ge j (List.ofFn g).flatten.length with h | h
     ·exact h
     ·rw [List.getElem?_eq_none h] at hj;cases hj
    rw [YI hls,List.length_ofFn] at hjl
    have hq:j / e.sz<lv:=by rw [Nat.div_lt_iff_lt_mul h0];exact hjl
    have hr:j % e.sz<e.sz:=Nat.mod_lt _ h0
    have hjj:j / e.sz*e.sz+j % e.sz=j:=by rw [Nat.mul_comm];exact Nat.div_add_mod j e.sz
    have hgl:=hf2 ⟨j / e.sz,hq⟩
    have hy:(g ⟨j / e.sz,hq⟩)[j % e.sz]? =some ((g ⟨j / e.sz,hq⟩)[j % e.sz]'(by omega)):=List.getElem?_eq_getElem _
    have h8:=Ee hls (j / e.sz) (g ⟨j / e.sz,hq⟩) (by rw [List.getElem?_ofFn];simp [hq]) (j % e.sz) _ hy
    rw [hjj,hj] at h8
    have h9:=hf3 ⟨j / e.sz,hq⟩ (j % e.sz) _ hy
    have h10:=add_cell h9 hs
    simp only at h10
    rw [hjj] at h10
    unfold World.cell? at h10
    simp only [hblk] at h10
    rw [Option.some.inj h8]
    simpa using h10
end
end Go.GW
namespace Go.Proofs.YtgedhdmpiciikaaGreatDoor
open Go Go.GW
theorem cells93:Tryz.prog.cellsOf 93=6:=by kernel_rfl
theorem cells24:Tryz.prog.cellsOf 24=2:=by kernel_rfl
theorem cells22:Tryz.prog.cellsOf 22=1:=by kernel_rfl
theorem cells4:Tryz.prog.cellsOf 4=1:=by kernel_rfl
theorem cells3:Tryz.prog.cellsOf 3=1:=by kernel_rfl
section
variable {H:Type} {enc:TypeId×Value→H} {w:World} {base:Nat} {sp:Nat→Bool} {held:Bool}
set_option maxRecDepth 100000 in
theorem act_elem (m:Nat) (cs:List Value) (x:DataW H×List MemPlace) (h:DataW.trod enc Tryz.prog w base sp held m 93 cs=some x): ∃u:GAct,cs=actC u:=by
 obtain ⟨xs,k,rfl,rfl,hl,hlen,hf⟩:=DataW.trod_struct Un93 h
 rw [cells93] at hl
 have hxl:xs.length=6:=hlen
 match cs,hl with
 | [a,b,c,d,e,f],_=>
  have h0:=hf 0 _ rfl
  have h1:=hf 1 _ rfl
  have h2:=hf 2 _ rfl
  have h3:=hf 3 _ rfl
  have h4:=hf 4 _ rfl
  have h5:=hf 5 _ rfl
  rw [List.getElem?_eq_getElem (show 0<xs.length by omega)] at h0
  rw [List.getElem?_eq_getElem (show 1<xs.length by omega)] at h1
  rw [List.getElem?_eq_getElem (show 2<xs.length by omega)] at h2
  rw [List.getElem?_eq_getElem (show 3<xs.length by omega)] at h3
  rw [List.getElem?_eq_getElem (show 4<xs.length by omega)] at h4
  rw [List.getElem?_eq_getElem (show 5<xs.length by omega)] at h5
  simp [cells3,cells9,cells4] at h0 h1 h2 h3 h4 h5
  obtain ⟨n0,e0,_⟩:=DataW.trod_int Un3 h0
  obtain ⟨n1,e1,_⟩:=DataW.trod_int Un3 h1
  obtain ⟨n2,e2,_⟩:=DataW.trod_int Un3 h2
  obtain ⟨n3,e3,_⟩:=DataW.trod_int Un3 h3
  obtain ⟨n4,e4,_⟩:=DataW.trod_string Un9 h4
  obtain ⟨n5,e5,_⟩:=DataW.trod_bool Un4 h5
  simp at e0 e1 e2 e3 e4 e5
  rw [e0,e1,e2,e3,e4,e5]
  exact ⟨⟨n0,n1,n2,n3,n4,n5⟩,rfl⟩
set_option maxRecDepth 100000 in
theorem room_arg {r:Reach} {b0:Nat} {W0:World} {v:Value} {d:DataW H} {p:List MemPlace} (hval:Value.okWide Tryz.prog W0 r b0 24 v) (h:DataW.Trod enc Tryz.prog w 0 sp held 24 v d p):
  ∃(nd:Int) (A:Option Addr) (c:Nat) (acts:List GAct),v= .agg #[.int .i64 nd, .slice A acts.length c] ∧(RdF actD A c acts).holds (fun b=>b<w.heap.size) w:=by
 obtain ⟨n,hn⟩:=h
 have hv: ∃cs,v= .agg cs:=by
  unfold Value.okWide at hval
  rw [Un24] at hval
  obtain ⟨cs,rfl,_⟩:=hval
  exact ⟨cs,rfl⟩
 obtain ⟨cs,rfl⟩:=hv
 obtain ⟨y0,y1,n, -,hl,h0,h1⟩:=ChangeShapes.trod_struct2 Un24 hn
 rw [cells24] at hl
 dsimp only at h0 h1
 rw [cells3] at h0
 rw [cells22] at h1
 have hl2:cs.toList.length=2:=hl
 match hcs:cs.toList,hl2 with
 | [a,b],_=>
  have e0:(Value.agg cs).cells.toList= [a,b] :=hcs
  rw [e0] at h0 h1
  obtain ⟨n0,e1,_⟩:=DataW.trod_int Un3 h0
  have e1':a= .int .i64 n0:=by simpa using e1
  have h2:DataW.trod enc Tryz.prog w 0 sp held n 22 [b] =some y1:=h1
  have hb: ∃(A:Option Addr) (l c:Nat),b= .slice A l c:=by
   rcases DataW.trod_slice Un22 h2 with ⟨h3,_⟩ | ⟨a',len,cap,elems,rest,m,_,h3,_⟩
   ·exact ⟨none,0,0,List.singleton_inj.1 h3⟩
   ·exact ⟨some a',len,cap,List.singleton_inj.1 h3⟩
  obtain ⟨A,l,c,rfl⟩:=hb
  obtain ⟨acts,ha,hR⟩:=rd_slice (e:=actD) Un22 cells93 (by decide) (fun m cs x hx=>by obtain ⟨u,rfl⟩:=act_elem m cs x hx;exact ⟨u,fun _ _=>rfl⟩) h2
  subst ha
  refine ⟨n0,A,c,acts,?_,hR⟩
  have:cs= #[.int .i64 n0, .slice A acts.length c] :=by
   apply Array.ext'
   rw [hcs,e1']
  rw [this]
end
theorem Jag {W W':World} {Z':Nat→Prop} (h:(NearF W (fun b=>b<W.heap.size)).holds Z' W') {x:MemPlace} (hx:x.block<W.heap.size):W.sameAt W' x:=by
 have hb:=(h.1 x.block hx).2
 cases x with
 | cell b off=>
  have hb':W'.heap[b]? =W.heap[b]? :=hb
  show W'.cell? ⟨b,off,none⟩=W.cell? ⟨b,off,none⟩
  unfold World.cell?
  simp only [hb']
 | map b=>exact hb
theorem laidOk:laidOutB Tryz.prog=true:=by kernel_rfl
def OkR (r:Int):Prop:=(0≤r∧r<55296)∨(57344≤r∧r≤1114111)
theorem u32_wr {r:Int} (h:OkR r):IntKind.u32.wrap r=r:=by
 have e:IntKind.u32.wrap r=r % 4294967296:=rfl
 rw [e];unfold OkR at h;omega
theorem Zf (x:Int):u8w x=x % 256:=rfl
theorem Jaq (r:Int) (k:Nat):r.fdiv (2 ^ k)=r / 2 ^ k:=Int.fdiv_eq_ediv_of_nonneg _ (Int.pow_nonneg (by decide))
theorem lowB (x:Int):bits .or .u8 128 (bits .and .u8 (u8w x) 63)=128+x % 64:=by
 rw [Zf,u8_and63 _ (by omega) (by omega),u8_or128 _ (by omega) (by omega)];omega
theorem encI_num {r:Int} (h:OkR r):(r≤127∧encI r= [r])∨(128≤r∧r≤2047∧encI r= [192+r / 64,128+r % 64])
  ∨(2048≤r∧r≤65535∧encI r= [224+r / 4096,128+r / 64 % 64,128+r % 64])∨(65536≤r∧encI r= [240+r / 262144,128+r / 4096 % 64,128+r / 64 % 64,128+r % 64]):=by
 have hr:=h
 unfold OkR at hr
 unfold encI
 rw [u32_wr h]
 simp only [lowB,Jaq]
 have p6:(2:Int) ^ 6=64:=rfl
 have p12:(2:Int) ^ 12=4096:=rfl
 have p18:(2:Int) ^ 18=262144:=rfl
 simp only [p6,p12,p18,Zf]
 by_cases h1:r≤127
 ·left;rw [if_pos h1];exact ⟨h1,by rw [Int.emod_eq_of_lt (by omega) (by omega)]⟩
 rw [if_neg h1]
 by_cases h2:r≤2047
 ·right;left;rw [if_pos h2,Int.emod_eq_of_lt (by omega) (by omega),u8_or192 _ (by omega) (by omega)];exact ⟨by omega,h2,rfl⟩
 rw [if_neg h2]
 by_cases h3:r≤65535
 ·right;right;left;rw [if_pos (by omega),Int.emod_eq_of_lt (a:=r / 4096) (by omega) (by omega),u8_or224 _ (by omega) (by omega)];exact ⟨by omega,h3,rfl⟩
 ·right;right;right;rw [if_neg (by omega),if_pos (by omega),Int.emod_eq_of_lt (a:=r / 262144) (by omega) (by omega),u8_or240 _ (by omega) (by omega)];exact ⟨by omega,rfl⟩
theorem QH (a b:List UInt8) (k:Nat) (h:k<b.length):((⟨(a++b).toArray⟩:ByteArray).get! (a.length+k)).toNat=b[k].toNat:=by
 have hlt:a.length+k<(a++b).length:=by simp;omega
 have:(⟨(a++b).toArray⟩:ByteArray).get! (a.length+k)=b[k] :=by
  show (a++b).toArray[a.length+k]! =b[k]
  rw [List.getElem!_toArray,getElem!_pos (a++b) (a.length+k) hlt,List.getElem_append_right (by omega)]
  congr 1;omega
 rw [this]
theorem nat8 {x:Int} (h:0≤x∧x<256):(UInt8.ofNat x.toNat).toNat=x.toNat:=by
 rw [UInt8.toNat_ofNat'];omega
theorem dec_enc (a b:List UInt8) {r:Int} (h:OkR r):Utf8.decode ⟨(a++(bytesU (encI r)++b)).toArray⟩ a.length=(r.toNat,(encI r).length):=by
 have hr:=h
 unfold OkR at hr
 have hsz:(⟨(a++(bytesU (encI r)++b)).toArray⟩:ByteArray).size-a.length=(encI r).length+b.length:=by
  show (a++(bytesU (encI r)++b)).toArray.size-a.length=_
  simp [bytesU]
 rw [Lib.decode_at,hsz]
 rcases encI_num h with ⟨h1,e⟩ | ⟨h1,h2,e⟩ | ⟨h1,h2,e⟩ | ⟨h1,e⟩
 all_goals
  rw [e]
  simp only [bytesU,List.map_cons,List.map_nil,List.cons_append,List.nil_append,List.length_cons,List.length_nil]
 ·have g0:=QH a (UInt8.ofNat r.toNat::b) 0 (by simp)
  rw [List.getElem_cons_zero,nat8 (by omega),Nat.add_zero] at g0
  unfold Lib.decodeN
  rw [g0,if_pos (by omega)]
 ·have g0:=QH a (UInt8.ofNat (192+r / 64).toNat::UInt8.ofNat (128+r % 64).toNat::b) 0 (by simp)
  have g1:=QH a (UInt8.ofNat (192+r / 64).toNat::UInt8.ofNat (128+r % 64).toNat::b) 1 (by simp)
  rw [List.getElem_cons_zero,nat8 (by omega),Nat.add_zero] at g0
  rw [List.getElem_cons_succ,List.getElem_cons_zero,nat8 (by omega)] at g1
  unfold Lib.decodeN
  rw [g0,g1,if_neg (by omega),if_pos (by omega),if_pos (by omega)]
  congr 1;omega
 ·have g0:=QH a (UInt8.ofNat (224+r / 4096).toNat::UInt8.ofNat (128+r / 64 % 64).toNat::UInt8.ofNat (128+r % 64).toNat::b) 0 (by simp)
  have g1:=QH a (UInt8.ofNat (224+r / 4096).toNat::UInt8.ofNat (128+r / 64 % 64).toNat::UInt8.ofNat (128+r % 64).toNat::b) 1 (by simp)
  have g2:=QH a (UInt8.ofNat (224+r / 4096).toNat::UInt8.ofNat (128+r / 64 % 64).toNat::UInt8.ofNat (128+r % 64).toNat::b) 2 (by simp)
  rw [List.getElem_cons_zero,nat8 (by omega),Nat.add_zero] at g0
  rw [List.getElem_cons_succ,List.getElem_cons_zero,nat8 (by omega)] at g1
  rw [List.getElem_cons_succ,List.getElem_cons_succ,List.getElem_cons_zero,nat8 (by omega)] at g2
  unfold Lib.decodeN
  rw [g0,g1,g2,if_neg (by omega),if_neg (by omega),if_pos (by omega),if_pos (by omega)]
  congr 1;omega
 ·have g0:=QH a (UInt8.ofNat (240+r / 262144).toNat::UInt8.ofNat (128+r / 4096 % 64).toNat::UInt8.ofNat (128+r / 64 % 64).toNat::UInt8.ofNat (128+r % 64).toNat::b) 0 (by simp)
  have g1:=QH a (UInt8.ofNat (240+r / 262144).toNat::UInt8.ofNat (128+r / 4096 % 64).toNat::UInt8.ofNat (128+r / 64 % 64).toNat::UInt8.ofNat (128+r % 64).toNat::b) 1 (by simp)
  have g2:=QH a (UInt8.ofNat (240+r / 262144).toNat::UInt8.ofNat (128+r / 4096 % 64).toNat::UInt8.ofNat (128+r / 64 % 64).toNat::UInt8.ofNat (128+r % 64).toNat::b) 2 (by simp)
  have g3:=QH a (UInt8.ofNat (240+r / 262144).toNat::UInt8.ofNat (128+r / 4096 % 64).toNat::UInt8.ofNat (128+r / 64 % 64).toNat::UInt8.ofNat (128+r % 64).toNat::b) 3 (by simp)
  rw [List.getElem_cons_zero,nat8 (by omega),Nat.add_zero] at g0
  rw [List.getElem_cons_succ,List.getElem_cons_zero,nat8 (by omega)] at g1
  rw [List.getElem_cons_succ,List.getElem_cons_succ,List.getElem_cons_zero,nat8 (by omega)] at g2
  rw [List.getElem_cons_succ,List.getElem_cons_succ,List.getElem_cons_succ,List.getElem_cons_zero,nat8 (by omega)] at g3
  unfold Lib.decodeN
  rw [g0,g1,g2,g3,if_neg (by omega),if_neg (by omega),if_neg (by omega),if_pos (by omega),if_pos (by omega)]
  congr 1;omega
theorem runesAt_enc: ∀(rs:List Int) (a:List UInt8),(∀r∈rs,OkR r)→runesAt ⟨(a++bytesU (rs.flatMap encI)).toArray⟩ a.length=rs
 | [],a,_=>by
  rw [runesAt,dif_neg]
  show ¬a.length<(a++_).toArray.size
  simp [bytesU]
 | r::rs,a,h=>by
  have hd:=dec_enc a (bytesU (rs.flatMap encI)) (h r List.mem_cons_self)
  have hl:=Vt r
  have ih:=runesAt_enc rs (a++bytesU (encI r)) fun x hx=>h x (List.mem_cons_of_mem _ hx)
  have e:bytesU ((r::rs).flatMap encI)=bytesU (encI r)++bytesU (rs.flatMap encI):=by unfold bytesU;rw [List.flatMap_cons,List.map_append]
  have hlen:(bytesU (encI r)).length=(encI r).length:=by unfold bytesU;rw [List.length_map]
  rw [e,runesAt,dif_pos (by show a.length<(a++_).toArray.size;simp;omega),hd]
  rw [List.append_assoc,List.length_append,hlen] at ih
  simp only
  rw [ih]
  have h0:=h r List.mem_cons_self
  unfold OkR at h0
  congr 1;omega
theorem EP {rs:List Int} (h: ∀r∈rs,OkR r):JW (strOf (rs.flatMap encI))=rs:=runesAt_enc rs [] h
theorem Jbq (s:ByteArray) (p:Nat):OkR ((Utf8.decode s p).1:Int):=by
 rw [Lib.decode_at]
 have hb:=(s.get! p).toNat_lt
 generalize (s.get! p).toNat=b0 at *
 generalize (s.get! (p+1)).toNat=b1
 generalize (s.get! (p+2)).toNat=b2
 generalize (s.get! (p+3)).toNat=b3
 unfold Lib.decodeN OkR
 repeat' split
 all_goals omega
theorem XT (s:ByteArray): ∀(m p:Nat),s.size-p≤m→ ∀r∈runesAt s p,OkR r
 | m,p,hm,r,hr=>by
  rw [runesAt] at hr
  split at hr
  ·rename_i hp
   rcases List.mem_cons.1 hr with rfl | hr
   ·exact Jbq s p
   ·have hd:=decode_pos s p
    match m with
    | 0=>omega
    | m+1=>exact XT s m _ (by omega) r hr
  ·cases hr
theorem HQ (s:ByteArray): ∀r∈JW s,OkR r:=XT s _ 0 (Nat.le_refl _)
theorem ZQ {g:Rg} {k:Int} {X:List Ce} (h: ∀c∈X,OkR c.1): ∀c∈QA g k X,OkR c.1:=by
 intro c hc
 unfold QA at hc
 rcases List.mem_append.1 hc with hc | hc
 ·exact h c (List.mem_of_mem_take hc)
 ·rcases List.mem_append.1 hc with hc | hc
  ·unfold up at hc
   obtain ⟨y,hy,rfl⟩:=List.mem_map.1 hc
   exact h y (List.mem_of_mem_drop (List.mem_of_mem_take hy))
  ·exact h c (List.mem_of_mem_drop hc)
theorem Gh: ∀(rs:List Rg) (k:Int) (X:List Ce),(∀c∈X,OkR c.1)→ ∀c∈KL rs k X,OkR c.1
 | [],_,X,h=>h
 | g::rs,k,X,h=>Gh rs k (QA g k X) (ZQ h)
theorem EL (e:GOp) {X:List Ce} (h: ∀c∈X,OkR c.1): ∀c∈JS e X,OkR c.1:=by
 unfold JS
 repeat' split
 ·intro c hc
  rcases List.mem_append.1 hc with hc | hc
  ·exact h c (List.mem_of_mem_take hc)
  ·rcases List.mem_append.1 hc with hc | hc
   ·unfold cellsOf at hc
    obtain ⟨y,hy,rfl⟩:=List.mem_map.1 hc
    exact HQ _ y hy
   ·exact h c (List.mem_of_mem_drop hc)
 ·exact Gh _ _ _ h
 ·exact Gh _ _ _ h
 ·exact h
theorem Made.okR {n:Nat} {H:Hist} {X:List Ce} (h:Made n H X): ∀c∈X,OkR c.1:=by
 induction h with
 | zero=>intro c hc;cases hc
 | step h g ih=>exact EL _ ih
theorem Jab {X:List Ce} (h: ∀c∈X,OkR c.1): ∀r∈Kh X,OkR r:=fun r hr=>by
 unfold Kh at hr
 obtain ⟨c,hc,rfl⟩:=List.mem_map.1 hr
 exact h c (List.mem_filter.1 hc).1
theorem text_runes {n:Nat} {H:Hist} {X:List Ce} (h:Made n H X):JW (textF X)=Kh X:=EP (Jab h.okR)
theorem _root_.Go.GW.Sp.monoF {P:Program} {k:FuncId} {args:List Value} {Lin:List Part} {pre:List Fact} {res res':Value→List Part→List Fact→Prop} (h:Sp P k args Lin pre res) (hr: ∀v Lo fs,res v Lo fs→ ∃fs',res' v Lo fs'∧ ∀A∈fs',A∈fs++pre):Sp P k args Lin pre res':=
 ⟨h.enters,fun Z w Ps As hs=>(h.calls Z w Ps As hs).mono fun e w' ⟨v,he,Z',Lo,fs,h1,h2⟩=>by
  obtain ⟨fs',h3,h4⟩:=hr v Lo fs h1
  exact ⟨v,he,Z',Lo,fs',h3,h2.subFacts fun A hA=>by
   rcases List.mem_append.1 hA with hA | hA
   ·rcases List.mem_append.1 (h4 A hA) with hA | hA
    ·exact List.mem_append_left _ hA
    ·exact List.mem_append_right _ (List.mem_append_left _ hA)
   ·exact List.mem_append_right _ hA⟩⟩
def ActR (M:DM) (D:DS):List Part→List Fact→Prop:=fun Lo fs=> ∃(M2:DM) (D2:DS),Acted D D2∧DV D2∧M2.d=M.d∧DkOk M2 D2∧Lo=KA M2 D2∧fs=KV M2 D2
structure Bd (D:DS):Prop where
 n:D.H.ops.length<700
 m:D.made<700∧(D.made:Int)+1<D.op
 c:5*(D.H.ops.length:Int)+5≤D.ce
theorem DV.nU {D:DS} (h:DV D):(D.u,(D.made:Int)+1)∉D.U:=fun hm=>by have:=h.sid _ (List.mem_append_left _ hm);simp only at this;omega
theorem DV.nR {D:DS} (h:DV D):(D.u,(D.made:Int)+1)∉D.R:=fun hm=>by have:=h.sid _ (List.mem_append_right _ hm);simp only at this;omega
theorem sid_more {D:DS} (h:DV D): ∀x∈D.U++D.R,x.2≤((D.made+1:Nat):Int):=fun x hx=>by have:=h.sid x hx;omega
theorem sid_did {D:DS} (h:DV D): ∀x∈(D.U++ [(D.u,(D.made:Int)+1)])++ [],x.2≤((D.made+1:Nat):Int):=fun x hx=>by
 rw [List.append_nil] at hx
 rcases List.mem_append.1 hx with hx | hx
 ·have:=h.sid x (List.mem_append_left _ hx);omega
 ·have:=List.mem_singleton.1 hx
  subst this
  show (D.made:Int)+1≤_;omega
theorem DV.insD {D:DS} (h:DV D) {k:Nat} {text:ByteArray} (M:MkD D (insO D k text)) (hu1:1≤(utF text).1∧(utF text).1≤5):DV (insD D k text)∧Acted D (insD D k text):=by
 have hw:Jw (insO D k text)=(utF text).1:=by unfold Jw;rw [if_pos (show (insO D k text).kind=1 from rfl)];rfl
 refine ⟨h.step M rfl rfl (by rw [hw];omega) rfl rfl rfl rfl (.inr (by rw [hw];rfl)) (sid_did h),rfl,⟨rfl,rfl,rfl⟩,rfl, .inr ⟨_,rfl,rfl,M.ops,rfl⟩⟩
theorem width_hide (D:DS) (rs:List Rg):Jw (hideO D rs)=0:=by unfold Jw;rw [if_neg (show ¬(hideO D rs).kind=1 by show ¬(2:Int)=1;decide)]
theorem width_stat (D:DS) (id:Id2) (on:Bool):Jw (statO D id on)=0:=by unfold Jw;rw [if_neg (show ¬(statO D id on).kind=1 by show ¬(4:Int)=1;decide)]
theorem DV.hideD {D:DS} (h:DV D) {rs:List Rg} (k:Nat) (M:MkD D (hideO D rs)):DV (hideD D rs k)∧Acted D (hideD D rs k):=
 ⟨h.step M rfl rfl (by rw [width_hide];omega) rfl rfl rfl rfl (.inl rfl) (sid_did h),rfl,⟨rfl,rfl,rfl⟩,rfl, .inr ⟨_,rfl,rfl,M.ops,rfl⟩⟩
theorem DV.statD {D:DS} (h:DV D) {id:Id2} {on:Bool} (j:Nat) (M:MkD D (statO D id on)):DV (statD D id on j)∧Acted D (statD D id on j):=
 ⟨h.step M rfl rfl (by rw [width_stat];omega) rfl rfl rfl rfl (.inl rfl) (sid_more h),rfl,⟨rfl,rfl,rfl⟩,rfl, .inr ⟨_,rfl,rfl,M.ops,rfl⟩⟩
theorem Acted.back {D D1 D2:DS} (h:Acted D1 D2) (hu:D1.u=D.u) (hl:D1.cl=D.cl∧D1.ce=D.ce∧D1.op=D.op) (hg:D1.got=D.got) (hH:D1.H=D.H) (hX:D1.X=D.X) (hm:D1.made=D.made):Acted D D2:=by
 obtain ⟨a1,a2,a3,a4⟩:=h
 rw [hu] at a1 a4
 rw [hl.1,hl.2.1,hl.2.2] at a2
 rw [hg] at a3
 rw [hH,hX,hm] at a4
 exact ⟨a1,a2,a3,a4⟩
theorem ZG {M2:DM} {D2:DS} {gs pre:List Fact} : ∀A∈KV M2 D2,A∈(KV M2 D2++gs)++pre:=fun A hA=>List.mem_append_left _ (List.mem_append_left _ hA)
theorem ins_a (M:DM) (D:DS) (ok:DkOk M D) (hv:DV D) (hb:Bd D) (p:Nat) (hp:p≤J3 D.X) (text:ByteArray) (hts:text.size≤1048576) (hu:(utF text).2.2=0) (hu1:1≤(utF text).1∧(utF text).1≤5):Sp Tryz.prog 13 [.pointer (some ⟨M.d,0,none⟩), .int .i64 p, .string text] (KA M D) (barF::KV M D) (fun v Lo fs=> ∃o:GOp,v= .tuple #[opV o none 0, .nilIface] ∧ActR M D Lo fs):=by
 have hpu:=hv.put_ D.u
 have hbm:=hb.m
 have hbn:=hb.n
 have hbc:=hb.c
 have hlm:=ok.lm
 have hmk: ∀k,Pth D.X p k→MkD D (insO D k text):=fun k hk=>(hv.insM (by omega) (by omega) hk hu (by omega)).1
 refine (insert_0 M D ok p hp text hts hu (by omega) (by omega) (by omega) hmk hv.nU hv.nR).mono ?_
 rintro v Lo fs ⟨k,M2,hk,hd,hok,rfl,rfl,rfl⟩
 obtain ⟨h1,h2⟩:=hv.insD (hmk k hk) hu1
 exact ⟨_,rfl,M2,_,h2,h1,hd,hok,rfl,rfl⟩
theorem del_a (M:DM) (D:DS) (ok:DkOk M D) (hv:DV D) (hb:Bd D) (p n:Nat) (hn0:0<n) (hpn:p+n≤J3 D.X):Sp Tryz.prog 17 [.pointer (some ⟨M.d,0,none⟩), .int .i64 p, .int .i64 n] (KA M D) (barF::KV M D) (fun v Lo fs=> ∃(o:GOp) (Ao:Option Addr) (co:Nat),v= .tuple #[opV o Ao co, .nilIface] ∧ActR M D Lo fs):=by
 have hbm:=hb.m
 have hbn:=hb.n
 have hlm:=ok.lm
 have hmk: ∀xs,VisR p n D.X xs→MkD D (hideO D xs)∧p≤J3 (JS (mkE D (hideO D xs)) D.X):=fun xs hx=>by
  obtain ⟨h1,h2⟩:=hv.hideM (by omega) (by omega) hn0 hpn hx
  refine ⟨h1,?_⟩
  rw [←Ku,h2,List.length_append,List.length_take,Ku];omega
 refine (delete_0 M D ok p n hn0 hpn (by omega) hmk hv.nU hv.nR).monoF ?_
 rintro v Lo fs ⟨xs,k,M2,A9,c9,hV,hB,hd,hok,rfl,rfl,rfl⟩
 obtain ⟨h1,h2⟩:=hv.hideD k (hmk xs hV).1
 exact ⟨_,⟨_,_,_,rfl,M2,_,h2,h1,hd,hok,rfl,rfl⟩,ZG⟩
theorem move_a (M:DM) (D:DS) (ok:DkOk M D) (hv:DV D) (hb:Bd D) (p:Nat) (hp:p≤J3 D.X):Sp Tryz.prog 81 [.pointer (some ⟨M.d,0,none⟩), .int .i64 p] (KA M D) (barF::KV M D) (fun v Lo fs=>v= .nilIface∧ActR M D Lo fs):=by
 refine (move_0 M D ok p hp).monoF ?_
 rintro v Lo fs ⟨k,hB,hok,rfl,rfl,rfl⟩
 exact ⟨_,⟨rfl,M,gapD D k,⟨rfl,⟨rfl,rfl,rfl⟩,rfl, .inl ⟨rfl,rfl,rfl⟩⟩,hv.turned rfl rfl rfl rfl rfl (fun x hx=>hx),rfl,hok,rfl,rfl⟩,fun A hA=> .tail _ hA⟩
theorem undo_a (M:DM) (D:DS) (ok:DkOk M D) (hv:DV D) (hb:Bd D):Sp Tryz.prog 39 [.pointer (some ⟨M.d,0,none⟩)] (KA M D) (barF::KV M D) (fun v Lo fs=>ActR M D Lo fs):=by
 have hbm:=hb.m
 have hbn:=hb.n
 have hlm:=ok.lm
 cases hx:(upF (JX D.H true) D.U D.R).1 with
 | none=>
  refine (undo_n M D ok (by omega) hx).mono ?_
  rintro v Lo fs ⟨e,M2,_,hd,hok,rfl,rfl,rfl⟩
  exact ⟨M2,D,Acted.rfl' D,hv,hd,hok,rfl,rfl⟩
 | some id=>
  obtain ⟨k,hw,hk,h4,hoff⟩:=stand_true (Zd hx)
  have hv1:DV (undoD D):=hv.turned rfl rfl rfl rfl rfl (fun x hx=>by
   rcases List.mem_append.1 hx with hx | hx
   ·exact List.mem_append.2 (VA (.inl hx))
   ·exact List.mem_append.2 (VA (.inr hx)))
  have htu:TuD (undoD D) id.1 id.2 false k:=hv1.tud (by show D.made<1024;omega) (by show D.H.ops.length<900;omega) hw hk h4 false hoff
  refine (Ze M D ok (by omega) id.1 id.2 k hx htu).mono ?_
  rintro v Lo fs ⟨M2,hd,hok,rfl,rfl,rfl⟩
  obtain ⟨h1,h2⟩:=hv1.statD k htu.mkd
  exact ⟨M2,_,h2.back rfl ⟨rfl,rfl,rfl⟩ rfl rfl rfl rfl,h1,hd,hok,rfl,rfl⟩
theorem redo_a (M:DM) (D:DS) (ok:DkOk M D) (hv:DV D) (hb:Bd D):Sp Tryz.prog 80 [.pointer (some ⟨M.d,0,none⟩)] (KA M D) (barF::KV M D) (fun v Lo fs=>ActR M D Lo fs):=by
 have hbm:=hb.m
 have hbn:=hb.n
 have hlm:=ok.lm
 cases hx:(upF (JX D.H false) D.R D.U).1 with
 | none=>
  refine (redo_n M D ok (by omega) hx).mono ?_
  rintro v Lo fs ⟨e,M2,_,hd,hok,rfl,rfl,rfl⟩
  exact ⟨M2,D,Acted.rfl' D,hv,hd,hok,rfl,rfl⟩
 | some id=>
  obtain ⟨k,hw,hk,h4,hoff⟩:=stand_true (Zd hx)
  have hv1:DV (redoD D):=hv.turned rfl rfl rfl rfl rfl (fun x hx=>by
   rcases List.mem_append.1 hx with hx | hx
   ·exact List.mem_append.2 ((VA (.inr hx)).symm)
   ·exact List.mem_append.2 ((VA (.inl hx)).symm))
  have htu:TuD (redoD D) id.1 id.2 true k:=hv1.tud (by show D.made<1024;omega) (by show D.H.ops.length<900;omega) hw hk h4 true hoff
  refine (Jbj M D ok (by omega) id.1 id.2 k hx htu).mono ?_
  rintro v Lo fs ⟨M2,hd,hok,rfl,rfl,rfl⟩
  obtain ⟨h1,h2⟩:=hv1.statD k htu.mkd
  exact ⟨M2,_,h2.back rfl ⟨rfl,rfl,rfl⟩ rfl rfl rfl rfl,h1,hd,hok,rfl,rfl⟩
theorem turn_a (M:DM) (D:DS) (ok:DkOk M D) (hv:DV D) (hb:Bd D) (i0 i1:Int) (on:Bool):Sp Tryz.prog 20 [.pointer (some ⟨M.d,0,none⟩), .agg #[.int .i64 i0, .int .i64 i1], .bool on] (KA M D) (barF::KV M D) (fun v Lo fs=>ActR M D Lo fs):=by
 have hbm:=hb.m
 have hbn:=hb.n
 have hlm:=ok.lm
 by_cases he:effE D.H (i0,i1) on=0
 ·obtain ⟨k,hw,hk,h4,hoff⟩: ∃k,JZ D.H.ents i0 i1=some k∧ ∃hk:k<D.H.ents.length,D.H.ents[k].op.kind≠4∧D.H.ents[k].off=on:=by
   cases hw:JZ D.H.ents i0 i1 with
   | none=>unfold effE at he;rw [hw] at he;cases he
   | some k=>
    obtain ⟨hk,_,_⟩:=KB hw
    unfold effE at he
    rw [hw] at he
    simp only [List.getElem?_eq_getElem hk] at he
    refine ⟨k,rfl,hk,?_⟩
    split at he
    ·cases he
    ·rename_i h4
     split at he
     ·rename_i ho;exact ⟨h4,ho⟩
     ·cases he
  have htu:=hv.tud (by omega) (by omega) hw hk h4 on hoff
  refine (turn_d M D ok (by omega) i0 i1 on k k hw hk h4 hoff htu).mono ?_
  rintro v Lo fs ⟨M2,hd,hok,rfl,rfl,rfl⟩
  obtain ⟨h1,h2⟩:=hv.statD k htu.mkd
  exact ⟨M2,_,h2,h1,hd,hok,rfl,rfl⟩
 ·refine (turn_e M D ok (by omega) i0 i1 on he).monoF ?_
  rintro v Lo fs ⟨e,_,rfl,rfl,rfl⟩
  exact ⟨_,⟨M,D,Acted.rfl' D,hv,rfl,ok,rfl,rfl⟩,fun A hA=> .tail _ hA⟩
theorem ZM (A B:List Ce) (rs:List Int):KL [⟨(A.length:Nat),(A.length:Nat)+(rs.length:Nat)⟩] 1 (A++(cellsOf rs 0++B))=A++(cellsOf rs 1++B):=by
 show QA _ _ _=_
 unfold QA
 have e1:((A.length:Nat):Int).toNat=A.length:=Int.toNat_natCast _
 have e2:(((A.length:Nat):Int)+(rs.length:Nat)-(A.length:Nat)).toNat=rs.length:=by omega
 have e3:(((A.length:Nat):Int)+(rs.length:Nat)).toNat=(A++cellsOf rs 0).length:=by rw [List.length_append,Jr];omega
 simp only [e1,e2,e3]
 rw [List.take_left,List.drop_left,List.take_left' (Jr rs 0)]
 have e5:(A++(cellsOf rs 0++B)).drop (A++cellsOf rs 0).length=B:=by rw [←List.append_assoc,List.drop_left]
 rw [e5]
 have e4:up 1 (cellsOf rs 0)=cellsOf rs 1:=by unfold up cellsOf;rw [List.map_map];rfl
 rw [e4]
theorem HD (rs:List Int):Kh (cellsOf rs 1)= [] :=by
 unfold Kh cellsOf
 rw [List.filter_map,List.map_map]
 have:(rs.filter ((fun c:Ce=>decide (c.2=0)) ∘ fun c=>(c,1)))= [] :=by
  apply List.filter_eq_nil_iff.2
  intro a _;simp
 rw [this];rfl
structure UndoI (D:DS) (p k:Nat) (D3:DS) (j:Nat):Prop where
 hx:(upF (JX D3.H true) D3.U D3.R).1=some (D.u,(D.made:Int)+1)
 tud:TuD (undoD D3) D.u ((D.made:Int)+1) false j
 vis:Kh (statD (undoD D3) (D.u,(D.made:Int)+1) false j).X=Kh D.X
 crt:J3 ((statD (undoD D3) (D.u,(D.made:Int)+1) false j).X.take (statD (undoD D3) (D.u,(D.made:Int)+1) false j).gap)=p
theorem ins_undo {D:DS} (hv:DV D) (hm:D.made<1000) (hn:D.H.ops.length<890) {p k:Nat} (hk:Pth D.X p k) {text:ByteArray} (hu:(utF text).2.2=0) (hu1:1≤(utF text).1∧(utF text).1≤5): ∃j,UndoI D p k (insD D k text) j:=by
 have g:=hv.ins (by omega) (by omega) hk.le hu (by omega)
 have M:=g.mkd hv.di (by omega)
 have ho:=KQ D.H
 have he:=(end_ins hv.di.hv (o:=insO D k text) (by rw [←ho];exact g) rfl).2
 rw [←ho] at he
 have hru:=Y0 hu
 have hw:Jw (insO D k text)=(JW text).length:=by
  unfold Jw;rw [if_pos (show (insO D k text).kind=1 from rfl)];show (utF text).1=_;omega
 have he2:(insD D k text).H.ents=D.H.ents.map (shiftE (insO D k text).at_ (Jw (insO D k text)))++ [⟨insO D k text,[⟨(insO D k text).at_,(insO D k text).at_+Jw (insO D k text)⟩],false⟩] :=he
 have hv3:=(hv.insD M hu1).1
 have hj:D.H.ents.length<(insD D k text).H.ents.length:=by rw [he2];simp
 have hej:(insD D k text).H.ents[D.H.ents.length] =⟨insO D k text,[⟨(k:Int),(k:Int)+((JW text).length:Nat)⟩],false⟩:=by
  simp only [he2]
  rw [List.getElem_append_right (by simp)]
  simp only [List.length_map,Nat.sub_self,List.getElem_cons_zero,hw]
  rfl
 have hwh:=YZ hv3.di.hv.ids hj
 have hc:((insD D k text).H.ents[D.H.ents.length]).op.c=D.u:=by rw [hej];rfl
 have hn2:((insD D k text).H.ents[D.H.ents.length]).op.n=(D.made:Int)+1:=by rw [hej];rfl
 rw [hc,hn2] at hwh
 have hk4:((insD D k text).H.ents[D.H.ents.length]).op.kind≠4:=by rw [hej];show (1:Int)≠4;decide
 have hoff:((insD D k text).H.ents[D.H.ents.length]).off=false:=by rw [hej]
 have hst:JX (insD D k text).H true (D.u,(D.made:Int)+1)=true:=by
  rw [QU hwh hj,hoff];simp [hk4]
 have hU:(insD D k text).U=D.U++ [(D.u,(D.made:Int)+1)] :=rfl
 have hpk:pickF (JX (insD D k text).H true) (insD D k text).U=some (D.U.length,(D.u,(D.made:Int)+1)):=by
  rw [hU]
  have:=X2 (ok:=JX (insD D k text).H true) (l:=D.U++ [(D.u,(D.made:Int)+1)]) (k:=D.U.length) (by simp) (by simpa using hst) (fun j hj hlt=>by simp at hj;omega)
  simpa using this
 have hx:(upF (JX (insD D k text).H true) (insD D k text).U (insD D k text).R).1=some (D.u,(D.made:Int)+1):=by unfold upF;rw [hpk]
 have hv1:DV (undoD (insD D k text)):=hv3.turned rfl rfl rfl rfl rfl (fun x hx=>by
  rcases List.mem_append.1 hx with hx | hx
  ·exact List.mem_append.2 (VA (.inl hx))
  ·exact List.mem_append.2 (VA (.inr hx)))
 have hol:(insD D k text).H.ops.length=D.H.ops.length+1:=by
  show (mkH D (insO D k text)).ops.length=_
  rw [M.ops];simp
 have htu:TuD (undoD (insD D k text)) D.u ((D.made:Int)+1) false D.H.ents.length:=hv1.tud (by show D.made+1<1024;omega) (by show (insD D k text).H.ops.length<900;omega) hwh hj hk4 false hoff
 have g4:=hv1.stat (by show D.made+1<1024;omega) (by show (insD D k text).H.ops.length<900;omega) hwh hj hk4 false
 have hsr:=stat_row hv1.di g4 hj hwh hoff
 have hkl:(D.X.take k).length=k:=by rw [List.length_take];have:=hk.le;omega
 have hX3:(insD D k text).X=D.X.take k++(cellsOf (JW text) 0++D.X.drop k):=ins_row hv.di g
 have hX4:(statD (undoD (insD D k text)) (D.u,(D.made:Int)+1) false D.H.ents.length).X=D.X.take k++(cellsOf (JW text) 1++D.X.drop k):=by
  show JS _ _=_
  rw [hsr]
  show KL ((insD D k text).H.ents[D.H.ents.length]).now _ (insD D k text).X=_
  rw [hX3]
  have hs:(if (decide (((undoD (insD D k text)).H.ents[D.H.ents.length]).op.kind=2)==false)=true then (1:Int) else -1)=1:=by
   have:((undoD (insD D k text)).H.ents[D.H.ents.length]).op.kind=1:=by show ((insD D k text).H.ents[D.H.ents.length]).op.kind=1;rw [hej];rfl
   rw [this];rfl
  rw [hs,hej]
  have:=ZM (D.X.take k) (D.X.drop k) (JW text)
  rw [hkl] at this
  exact this
 have hgap:(statD (undoD (insD D k text)) (D.u,(D.made:Int)+1) false D.H.ents.length).gap=k:=by
  show turnGap _ (entryF (mkH (undoD (insD D k text)) (statO (undoD (insD D k text)) (D.u,(D.made:Int)+1) false)) (D.H.ents.length:Nat)).1 false=k
  rw [YA htu.hj]
  have ho3:=KQ (undoD (insD D k text)).H
  have hee:=(end_stat hv1.di.hv (o:=statO (undoD (insD D k text)) (D.u,(D.made:Int)+1) false) (by rw [←ho3];exact g4) rfl hj hwh hoff).2
  rw [←ho3] at hee
  have hee2:(mkH (undoD (insD D k text)) (statO (undoD (insD D k text)) (D.u,(D.made:Int)+1) false)).ents=(insD D k text).H.ents.set D.H.ents.length (offE (insD D k text).H.ents[D.H.ents.length] true)++ [⟨statO (undoD (insD D k text)) (D.u,(D.made:Int)+1) false,[],false⟩] :=hee
  have hek:(mkH (undoD (insD D k text)) (statO (undoD (insD D k text)) (D.u,(D.made:Int)+1) false)).ents[D.H.ents.length]'htu.hj=offE (insD D k text).H.ents[D.H.ents.length] true:=by
   simp only [hee2]
   rw [List.getElem_append_left (by simpa using hj),List.getElem_set_self]
  rw [hek,hej]
  rfl
 refine ⟨D.H.ents.length,hx,htu,?_,?_⟩
 ·rw [hX4,Yh,Yh (cellsOf _ _),HD,List.nil_append,←Yh,List.take_append_drop]
 ·rw [hgap,hX4]
  conv=>lhs;arg 1;rw [show k=(D.X.take k).length from hkl.symm]
  rw [hkl,List.take_left' hkl,hk.ct]
def abcB:ByteArray:=⟨#[97,98,99]⟩
def xB:ByteArray:=⟨#[88]⟩
theorem ut_abc:utF abcB=(3,0,0):=by
 show utAt ⟨#[97,98,99]⟩ 0 0=_
 rw [Ya (r:=97) (w:=1) (by decide) (by decide) (by decide) (by decide),Ya (r:=98) (w:=1) (by decide) (by decide) (by decide) (by decide),Ya (r:=99) (w:=1) (by decide) (by decide) (by decide) (by decide),utAt_end (by decide)];rfl
theorem ut_x:utF xB=(1,0,0):=by
 show utAt ⟨#[88]⟩ 0 0=_
 rw [Ya (r:=88) (w:=1) (by decide) (by decide) (by decide) (by decide),utAt_end (by decide)];rfl
theorem rn_end {s:ByteArray} {p:Nat} (h: ¬p<s.size):runesAt s p= [] :=by rw [runesAt,dif_neg h]
theorem rn_abc:JW abcB= [97,98,99] :=by
 show runesAt ⟨#[97,98,99]⟩ 0=_
 rw [XE (r:=97) (w:=1) (by decide) (by decide),XE (r:=98) (w:=1) (by decide) (by decide),XE (r:=99) (w:=1) (by decide) (by decide),rn_end (by decide)];rfl
theorem rn_x:JW xB= [88] :=by
 show runesAt ⟨#[88]⟩ 0=_
 rw [XE (r:=88) (w:=1) (by decide) (by decide),rn_end (by decide)];rfl
def awX1:List Ce:= [(97,0),(98,0),(99,0)]
def awX2:List Ce:= [(97,0),(98,1),(99,0)]
theorem aw_k0 {k:Nat} (h:Pth [] 0 k):k=0:=Nat.le_zero.1 h.le
theorem aw_k2 {k:Nat} (h:Pth awX2 1 k):k=2:=by
 have h1:k≤3:=h.le
 have h2:=h.ct
 have h3:=h.at_ (by decide)
 match k,h1 with
 | 0,_=>exact absurd h2 (by decide)
 | 1,_=>obtain ⟨r,h3⟩:=h3;exact absurd (show some (1:Int)=some 0 from congrArg (Option.map fun c:Ce=>c.2) h3) (by decide)
 | 2,_=>rfl
 | 3,_=>obtain ⟨r,h3⟩:=h3;exact absurd (show (none:Option Int)=some 0 from congrArg (Option.map fun c:Ce=>c.2) h3) (by decide)
theorem aw_x2 {xs:List Rg} (h:VisR 1 1 awX1 xs):KL xs 1 awX1=awX2:=by
 have hb:=KR (k:=1) xs 0 awX1 (Int.le_refl _) h.pls.norm h.pls.below
 have hp:Kd xs= [1] :=by rw [h.pl];decide
 have hin: ∀q:Int,inRb q xs=decide (q=1):=fun q=>by
  have:inRb q xs=true↔q=1:=by rw [K1,←mem_places,hp];simp
  by_cases e:q=1
  ·rw [this.2 e];simp [e]
  ·rw [decide_eq_false e]
   cases hh:inRb q xs with
   | false=>rfl
   | true=>exact absurd (this.1 hh) e
 apply List.ext_getElem?
 intro q
 rw [hb.2 q,hin]
 match q with
 | 0=>rfl
 | 1=>rfl
 | 2=>rfl
 | q+3=>rfl
theorem aw_t3:textF (awX2.take 2++(cellsOf [88] 0++awX2.drop 2))=⟨#[97,88,99]⟩:=rfl
theorem text_vis {X Y:List Ce} (h:Kh X=Kh Y):textF X=textF Y:=by unfold textF vbs;rw [h]
theorem aw_t4:textF awX2=⟨#[97,99]⟩:=rfl
theorem tmod_neg (x:Int) (m:Nat) (hm:0<m) (h:x.tmod m<0):x.tmod m+m=x % m:=by
 have h1:=Int.emod_add_mul_ediv x m
 have h2:=Int.tmod_add_mul_tdiv x m
 have h3:=Int.emod_nonneg x (show (m:Int)≠0 by omega)
 have h4:=Int.emod_lt_of_pos x (show (0:Int)<m by omega)
 have h5:=GV x m hm
 have h6:(m:Int)*(x / m)-m*(x.tdiv m)=x.tmod m-x % m:=by omega
 have h7:(m:Int)*(x / m-x.tdiv m)=x.tmod m-x % m:=by rw [Int.mul_sub];exact h6
 have h8:x / m-x.tdiv m= -1:=by
  rcases Int.lt_trichotomy (x / m-x.tdiv m) (-1) with h | h | h
  ·exfalso
   have:(m:Int)*(x / m-x.tdiv m)≤m*(-2):=Int.mul_le_mul_of_nonneg_left (by omega) (by omega)
   omega
  ·exact h
  ·exfalso
   have:(m:Int)*0≤m*(x / m-x.tdiv m):=Int.mul_le_mul_of_nonneg_left (by omega) (by omega)
   omega
 rw [h8] at h7
 omega
theorem tmod_pos (x:Int) (m:Nat) (hm:0<m) (h:0≤x.tmod m):x.tmod m=x % m:=by
 have h1:=Int.emod_add_mul_ediv x m
 have h2:=Int.tmod_add_mul_tdiv x m
 have h3:=Int.emod_nonneg x (show (m:Int)≠0 by omega)
 have h4:=Int.emod_lt_of_pos x (show (0:Int)<m by omega)
 have h5:=GV x m hm
 have h6:(m:Int)*(x / m)-m*(x.tdiv m)=x.tmod m-x % m:=by omega
 have h7:(m:Int)*(x / m-x.tdiv m)=x.tmod m-x % m:=by rw [Int.mul_sub];exact h6
 have h8:x / m-x.tdiv m=0:=by
  rcases Int.lt_trichotomy (x / m-x.tdiv m) 0 with h | h | h
  ·exfalso
   have:(m:Int)*(x / m-x.tdiv m)≤m*(-1):=Int.mul_le_mul_of_nonneg_left (by omega) (by omega)
   omega
  ·exact h
  ·exfalso
   have:(m:Int)*1≤m*(x / m-x.tdiv m):=Int.mul_le_mul_of_nonneg_left (by omega) (by omega)
   omega
 rw [h8] at h7
 omega
set_option maxRecDepth 10000 in
theorem brought_m (x:Int) (m:Nat) (hm:0<m∧m≤1099511627776):Sp Tryz.prog 12 [.int .i64 x, .int .i64 m] [] [] (Is (.int .i64 (x % m))):=by
 have htb:=GV x m hm.1
 refine Sp.of (n:=16) ⟨_,Tryz.func12,rfl,rfl,rfl,rfl⟩ (Nat.le_of_ble_eq_true rfl) fun Ps As=>Jc (Ja (Lq (Jd rfl) (Je (Jf (Jc (Jc (Ja (Lq (Jb rfl) (Lq (Ko rfl rfl) (Je (Jf (Jv rfl (decide_eq_false (by omega)) (Jp (Jf (Jc (Ja (Lq (Jb rfl) ?_)))))))))))))))))
 refine Lq (Jb rfl) (Lq (Jby rfl rfl (by omega) rfl) (Lq (Jd rfl) (Je (Jf (Jc (Jc (Ja (Lq (Jb rfl) (Lq (Ko rfl rfl) (Je (Jf (Jz rfl (fun h11=> ?_) (fun h11=> ?_)))))))))))))
 ·refine Ja (Lq (Jb rfl) (Lq (Jb rfl) (Lq (JV rfl rfl (wr64 (by have h:=h11;simp only [decide_eq_true_eq] at h;omega))) (Lq (Jd rfl) (Je (Jf (Jc (Ja (Lq (Jb rfl) (Lq (Jd rfl) (Je (Jf (Jo ?_)))))))))))))
  refine ⟨_,[],[],fun Z w hs=> .tmp rfl (.nil),?_,fun Z w hs=>hs.out (Sr) (fun _ h=>h)⟩
  have h:=h11
  have h3:=Int.emod_nonneg x (show (m:Int)≠0 by omega)
  have h4:=Int.emod_lt_of_pos x (show (0:Int)<m by omega)
  simp only [decide_eq_true_eq] at h
  exact ⟨congrArg (Value.int .i64) (by rw [tmod_neg x m hm.1 h]),rfl,rfl⟩
 ·refine Jp (Jf (Jc (Ja (Lq (Jb rfl) (Lq (Jd rfl) (Je (Jf (Jo ?_))))))))
  refine ⟨_,[],[],fun Z w hs=> .tmp rfl (.nil),?_,fun Z w hs=>hs.out (Sr) (fun _ h=>h)⟩
  have h:=h11
  have h3:=Int.emod_nonneg x (show (m:Int)≠0 by omega)
  have h4:=Int.emod_lt_of_pos x (show (0:Int)<m by omega)
  simp only [decide_eq_false_iff_not] at h
  exact ⟨congrArg (Value.int .i64) (by rw [tmod_pos x m hm.1 (by omega)]),rfl,rfl⟩
theorem K8 (x:Int) (m:Nat) (hm:0<m∧m≤1099511627776):Sp Tryz.prog 12 [.int .i64 x, .int .i64 m] [] [] (fun v Lo fs=> ∃r:Nat,r<m∧(r:Int)=x % m∧v= .int .i64 r∧Lo= [] ∧fs= []):=by
 refine (brought_m x m hm).mono ?_
 rintro v Lo fs ⟨rfl,rfl,rfl⟩
 have h3:=Int.emod_nonneg x (show (m:Int)≠0 by omega)
 have h4:=Int.emod_lt_of_pos x (show (0:Int)<m by omega)
 exact ⟨(x % m).toNat,by omega,by omega,congrArg (Value.int .i64) (by omega),rfl,rfl⟩
theorem bd38_0_1_2Xg20 (x0_:Int) (x1_:Int) (x2_:Int) (w:World):(Instr.build 38 #[(0, .int .i64 x0_),(1, .int .i64 x1_),(2, .int .i64 x2_)]).run Tryz.prog w= .ok (.agg #[.int .i64 x0_, .int .i64 x1_, .int .i64 x2_]) w:=by kernel_rfl
set_option maxRecDepth 10000 in
theorem Jb2:Sp Tryz.prog 37 [] [] [] (Is (.agg #[.int .i64 4, .int .i64 4096, .int .i64 1024])):=by
 refine Sp.of (n:=2) ⟨_,Tryz.func37,rfl,rfl,rfl,rfl⟩ (Nat.le_of_ble_eq_true rfl) fun Ps As=>Jc (Ja (Jg rfl (Ju (cs:= [_,_,_]) GX rfl (by decide) fun b0=>Je (Jf (Jc (Ja (Lq (J0 (.cons rfl (.cons rfl (.cons rfl (.nil)))) (bd38_0_1_2Xg20 _ _ _)) (Jg rfl (Jq (cs':= [_,_,_]) (vs:= [_,_,_]) GX rfl rfl rfl rfl rfl (Nat.le_of_ble_eq_true rfl) (.z) (Je (Jf (Jo ?_))))))))))))
 refine ⟨_,[],[],fun Z w hs=>JT hs Un38 rfl GX rfl Jn rfl (.nil),?_,fun Z w hs=>hs.out (Sd (Sr)) (fun _ h=>h)⟩
 exact ⟨rfl,rfl,rfl⟩
set_option maxRecDepth 10000 in
theorem ZI (o:GOp) (A:Option Addr) (c:Nat) (hl:o.rs.length≤4398046511104):Sp Tryz.prog 79 [opV o A c] [] [RdF rgD A c o.rs] (fun v Lo fs=> ∃A' c',v=opV o A' c'∧Lo= [] ∧fs= [RdF rgD A' c' o.rs]):=by
 refine Sp.of (n:=8) ⟨_,Tryz.func79,rfl,rfl,rfl,rfl⟩ (Nat.le_of_ble_eq_true rfl) fun Ps As=>Jc (Ja (Jg rfl (J7 (cs:= [_,_,_,_,_,_,_,_,_]) rfl rfl (by decide) fun b1=>Jg rfl (Ju (cs:= [_,_,_,_,_,_,_,_,_]) JB rfl (by decide) fun b2=>Je (Jf (Jc (Ja (Lq (Jh (o':=5) Un52 rfl Yf rfl rfl) (Lq (Jj Un50 rfl rfl (Ji (Jn)) rfl) (Gm (Jg rfl (K0 (e:=rgD) (ys:=_) Un50 K3 rfl (by decide) rfl rfl (Row.nil _ _) Mm0 (by omega) (by unfold maxLen;omega) (by decide) (List.Perm.refl _) fun v5 p5 cs5 hr5=>GN (e:=rgD) (css:=cs5) hr5 (.z) (by simp) Mm0 fun A5 c5 e5=> ?_))))))))))))
 subst e5
 refine Lq (Jh (o':=5) Un52 rfl Yf rfl rfl) (Jg rfl (JJ Yf rfl rfl rfl (.s (.s (.s (.s (.s (.z)))))) (.s (.z)) (Je (Jf (Jc (Ja (Lq (Jt (vs:= [_,_,_,_,_,_,_,_,_]) Un52 rfl JB rfl (Ji (Jn)) rfl rfl) (Jg rfl (Jq (cs':= [_,_,_,_,_,_,_,_,_]) (vs:= [_,_,_,_,_,_,_,_,_]) JB rfl rfl rfl rfl rfl (Nat.le_of_ble_eq_true rfl) (.z) (Je (Jf (Jo ?_))))))))))))
 refine ⟨_,[],[_],fun Z w hs=>JT hs Un52 rfl JB rfl Jn rfl (.nil),?_,fun Z w hs=>hs.out (Sd (Sd (Sr))) (Jl Mm0 Tt2)⟩
 exact ⟨_,_,rfl,rfl,rfl⟩
theorem bd46_0_1Xg21 (x0_:Int) (x1_:Int) (w:World):(Instr.build 46 #[(0, .int .i64 x0_),(1, .int .i64 x1_)]).run Tryz.prog w= .ok (.agg #[.int .i64 x0_, .int .i64 x1_]) w:=by kernel_rfl
set_option maxRecDepth 10000 in
theorem Ja0 (M:DM) (D:DS) (ok:DkOk M D) (hv:DV D) (hb:Bd D) (a:GAct) (k n:Nat) (hn:1≤n∧n≤8):Sp Tryz.prog 41 [.pointer (some ⟨M.d,0,none⟩),actV a, .int .i64 k, .int .i64 n] (KA M D) (barF::wordsF::KV M D) (fun v Lo fs=>v= .bool true∧ActR M D Lo fs):=by
 have hvl:=Kl M.t.row
 have hwt:=ok.wt
 have htl:=ok.tl
 have hrow:=ok.row
 have hpl:=ok.pl
 have hxl:=ok.xl
 have hvx:=Kl D.X
 refine Sp.of (n:=101) ⟨_,Tryz.func41,rfl,rfl,rfl,rfl⟩ (Nat.le_of_ble_eq_true rfl) fun Ps As=>Jc (Ja (Jg rfl (J7 (cs:= [_,_,_,_,_,_]) rfl rfl (by decide) fun b5=>Lq (Jd rfl) (Je (Jf (Jc (Ja (Lq (Jb rfl) (Lq (JC rfl) (Lq (Jh (o':=0) Un42 rfl Yn rfl rfl) (Jg rfl (Kp (Y2 M.d M.h M.b _ _ M.B M.t hwt) (.cons rfl (.nil)) (by decide) (.s (.z)) (.s (.s (.s (.s (.z))))) (Jl Mm4 Jx) fun u1_3 Lo fs hres=> ?_))))))))))))
 obtain ⟨rfl,rfl,rfl⟩:=hres
 rw [hrow]
 refine Lq (Jd rfl) (Je (Jf (Jc (JN (Jc (Ja (Lq (Jb rfl) (Lq (Ko rfl rfl) (Lq (Jd rfl) (Je (Jf (Jz rfl (fun h19=> ?_) (fun h19=> ?_)))))))))))))
 ·refine Jc (JI _ _ [16] (.c 0 0 (.c 1 0 (.c 2 0 (.c 3 0 (.c 4 0 (.c 6 0 (.c 7 0 (.b (.c 5 2 (.b (.c 8 2 (.c 9 0 (.c 10 0 (.b (.c 11 2 (.c 12 0 (.c 13 0 (.c 14 1 (.c 15 2 (.c 16 3 (.c 17 1 .nil))))))) (.c 15 2 (.c 11 2 (.c 12 0 (.c 13 0 (.c 14 1 (.c 16 3 (.c 17 1 .nil))))))))))) (.c 15 2 (.c 8 2 (.c 9 0 (.c 10 0 (.c 11 2 (.c 12 0 (.c 13 0 (.c 14 1 (.c 16 3 (.c 17 1 .nil)))))))))))) (.c 15 2 (.c 5 2 (.c 8 2 (.c 9 0 (.c 10 0 (.c 11 2 (.c 12 0 (.c 13 0 (.c 14 1 (.c 16 3 (.c 17 1 .nil))))))))))))))))))) mixed (fun _ _ _ _ h=>h) (Sd (Sd (Sk (Sd (Sd (Sd (Sd (Sd (Sd (Sr)))))))))) (fun _ h=>h) (by kernel_rfl) (by decide) fun ws Z0=>Qe rfl (Jb rfl) (Qe rfl (Jh (o':=2) Un93 rfl ti3 rfl rfl) ?_))
  refine Qe rfl (Jj Un3 rfl rfl Jn rfl) (Qe rfl (Jb rfl) (Qe rfl (JV rfl rfl (wr64 (by omega)) (c:=((J3 D.X+1:Nat):Int))) (Qe rfl (Jh (o':=3) Un93 rfl ti3 rfl rfl) (Qe rfl (Jj Un3 rfl rfl Jn rfl) (Yd ?_ ?_)))))
  ·refine Jy rfl rfl (Jm (K8 a.a (J3 D.X+1) (by omega)) (.cons rfl (.cons rfl (.nil))) (by decide) Jx fun u3_5 Lo fs hres=> ?_)
   obtain ⟨p,hp,_,rfl,rfl,rfl⟩:=hres
   refine ⟨⟨(Sd (Sd (Sk (Sd (Sd (Sd (Sd (Sd (Sd (Sr)))))))))),Mm0⟩,?_⟩
   refine Yd ?_ ?_
   ·refine Jy rfl rfl (Jm (K8 a.b 6 (by omega)) (.cons rfl (.cons rfl (.nil))) (by decide) Jx fun u3_8 Lo fs hres=> ?_)
    obtain ⟨w,hw,_,rfl,rfl,rfl⟩:=hres
    refine ⟨⟨(Sd (Sd (Sk (Sd (Sd (Sd (Sd (Sd (Sd (Sr)))))))))),Mm0⟩,?_⟩
    refine Qe rfl (Yb (o':=0+w) Un43 ti9 rfl rfl (by omega) (by omega) (by simp)) (Qe rfl (Kj (j:=w) (v:= .string (wordA w)) Un9 rfl rfl Mm1 rfl (Xx hw)) (Yd ?_ ?_))
    ·have hwd:=VU hw
     refine Jy rfl rfl (J5 (ins_a M D ok hv hb p (by omega) (wordA w) (by have:=hwd.z;omega) hwd.u hwd.n) (.cons rfl (.cons rfl (.cons rfl (.nil)))) (by decide) (.cons (.z) (.cons (.s (.s (.z))) (.cons (.s (.s (.z))) (.cons (.s (.s (.z))) (.cons (.z) (.cons (.s (.z)) (.cons (.s (.z)) (.cons (.s (.z)) .nil)))))))) (Jl Mm1 (Jl Mm3 (Jl Mm4 (Jl Mm5 Jx)))) fun u3_11 Lo fs hres=> ?_)
     obtain ⟨_,rfl,M2,D2,hac,hv2,hd2,hok2,rfl,rfl⟩:=hres
     refine ⟨⟨(Sd (Sd (Sd (Sd (Sd (Sd (Sd (Sd (Sk (Sr)))))))))),Mm3⟩,?_⟩
     refine Qe rfl (Jb rfl) (Qe rfl (Jk (vs:= [_,_]) rfl rfl) (Y5 rfl (Jk (vs:= [_,_]) rfl rfl) (by decide) (Jy rfl rfl (Ju (cs:= [_,_,_,_,_,_,_,_,_]) JB rfl (by decide) fun b10=> ?_))))
     refine ⟨⟨(Sd (Sd (Sd (Sd (Sd (Sd (Sd (Sd (Sd (Sk (Sr))))))))))),Mm3⟩,?_⟩
     refine JL (J8 rfl rfl (Jq (cs':= [_,_,_,_,_,_,_,_,_]) (vs:= [_,_,_,_,_,_,_,_,_]) JB rfl rfl rfl rfl rfl (Nat.le_of_ble_eq_true rfl) (.z) (YR rfl (Jd rfl) (by decide) (JK (Jf (Jc (Ja (Lq (Jb rfl) (Lq (Qr Un54 rfl) (Lq (Jd rfl) (Je (Jf (Jo (JG (Js ?_)))))))))))))))
     refine ⟨_,[_,_,_,_,_,_,_,_],[_,_,_],fun Z w hs=> .tmp rfl (.nil),?_,fun Z w hs=>hs.out (Sd (Sk (Sk (Sk (Sk (Sk (Sk (Sk (Sk (Sd (Sr))))))))))) (Jl Mm0 (Jl Mm1 (Jl Mm2 Tt4)))⟩
     exact ⟨rfl,M2,D2,hac,hv2,hd2,hok2,rfl,rfl⟩
    ·refine Jy rfl rfl (Ju (cs:= [_,_,_,_,_,_,_,_,_]) JB rfl (by decide) fun b10=> ?_)
     refine ⟨⟨(Sd (Sd (Sd (Sk (Sd (Sd (Sd (Sd (Sd (Sd (Sr))))))))))),Mm0⟩,?_⟩
     have hwd:=VU hw
     refine Jy rfl rfl (J5 (ins_a M D ok hv hb p (by omega) (wordA w) (by have:=hwd.z;omega) hwd.u hwd.n) (.cons rfl (.cons rfl (.cons rfl (.nil)))) (by decide) (.cons (.s (.z)) (.cons (.s (.s (.s (.z)))) (.cons (.s (.s (.s (.z)))) (.cons (.s (.s (.s (.z)))) (.cons (.s (.z)) (.cons (.s (.s (.z))) (.cons (.s (.s (.z))) (.cons (.s (.s (.z))) .nil)))))))) (Jl Mm1 (Jl Mm3 (Jl Mm4 (Jl Mm5 Jx)))) fun u3_11 Lo fs hres=> ?_)
     obtain ⟨_,rfl,M2,D2,hac,hv2,hd2,hok2,rfl,rfl⟩:=hres
     refine ⟨⟨(Sd (Sd (Sd (Sd (Sd (Sd (Sd (Sd (Sd (Sk (Sr))))))))))),Mm3⟩,?_⟩
     refine Qe rfl (Jb rfl) (Qe rfl (Jk (vs:= [_,_]) rfl rfl) (Y5 rfl (Jk (vs:= [_,_]) rfl rfl) (by decide) (JL (J8 rfl rfl (Jq (cs':= [_,_,_,_,_,_,_,_,_]) (vs:= [_,_,_,_,_,_,_,_,_]) JB rfl rfl rfl rfl rfl (Nat.le_of_ble_eq_true rfl) (.s (.s (.s (.s (.s (.s (.s (.s (.z))))))))) (YR rfl (Jd rfl) (by decide) (JK (Jf (Jc (Ja (Lq (Jb rfl) (Lq (Qr Un54 rfl) (Lq (Jd rfl) ?_)))))))))))))
     refine Je (Jf (Jo (JG (Js ?_))))
     refine ⟨_,[_,_,_,_,_,_,_,_],[_,_,_],fun Z w hs=> .tmp rfl (.nil),?_,fun Z w hs=>hs.out (Sk (Sk (Sk (Sk (Sk (Sk (Sk (Sk (Sd (Sd (Sr))))))))))) (Jl Mm0 (Jl Mm1 (Jl Mm2 Tt4)))⟩
     exact ⟨rfl,M2,D2,hac,hv2,hd2,hok2,rfl,rfl⟩
   ·refine Jy rfl rfl (Ju (cs:= [_,_,_,_,_,_,_,_,_]) JB rfl (by decide) fun b10=> ?_)
    refine ⟨⟨(Sd (Sd (Sd (Sk (Sd (Sd (Sd (Sd (Sd (Sd (Sr))))))))))),Mm0⟩,?_⟩
    refine Jy rfl rfl (Jm (K8 a.b 6 (by omega)) (.cons rfl (.cons rfl (.nil))) (by decide) Jx fun u3_8 Lo fs hres=> ?_)
    obtain ⟨w,hw,_,rfl,rfl,rfl⟩:=hres
    refine ⟨⟨(Sd (Sd (Sd (Sk (Sd (Sd (Sd (Sd (Sd (Sd (Sr))))))))))),Mm0⟩,?_⟩
    refine Qe rfl (Yb (o':=0+w) Un43 ti9 rfl rfl (by omega) (by omega) (by simp)) (Qe rfl (Kj (j:=w) (v:= .string (wordA w)) Un9 rfl rfl Mm1 rfl (Xx hw)) ?_)
    have hwd:=VU hw
    refine Jy rfl rfl (J5 (ins_a M D ok hv hb p (by omega) (wordA w) (by have:=hwd.z;omega) hwd.u hwd.n) (.cons rfl (.cons rfl (.cons rfl (.nil)))) (by decide) (.cons (.s (.z)) (.cons (.s (.s (.s (.z)))) (.cons (.s (.s (.s (.z)))) (.cons (.s (.s (.s (.z)))) (.cons (.s (.z)) (.cons (.s (.s (.z))) (.cons (.s (.s (.z))) (.cons (.s (.s (.z))) .nil)))))))) (Jl Mm1 (Jl Mm3 (Jl Mm4 (Jl Mm5 Jx)))) fun u3_11 Lo fs hres=> ?_)
    obtain ⟨_,rfl,M2,D2,hac,hv2,hd2,hok2,rfl,rfl⟩:=hres
    refine ⟨⟨(Sd (Sd (Sd (Sd (Sd (Sd (Sd (Sd (Sd (Sk (Sr))))))))))),Mm3⟩,?_⟩
    refine Qe rfl (Jb rfl) (Qe rfl (Jk (vs:= [_,_]) rfl rfl) (Y5 rfl (Jk (vs:= [_,_]) rfl rfl) (by decide) (JL (J8 rfl rfl (Jq (cs':= [_,_,_,_,_,_,_,_,_]) (vs:= [_,_,_,_,_,_,_,_,_]) JB rfl rfl rfl rfl rfl (Nat.le_of_ble_eq_true rfl) (.s (.s (.s (.s (.s (.s (.s (.s (.z))))))))) (YR rfl (Jd rfl) (by decide) (JK (Jf (Jc (Ja (Lq (Jb rfl) (Lq (Qr Un54 rfl) (Lq (Jd rfl) ?_)))))))))))))
    refine Je (Jf (Jo (JG (Js ?_))))
    refine ⟨_,[_,_,_,_,_,_,_,_],[_,_,_],fun Z w hs=> .tmp rfl (.nil),?_,fun Z w hs=>hs.out (Sk (Sk (Sk (Sk (Sk (Sk (Sk (Sk (Sd (Sd (Sr))))))))))) (Jl Mm0 (Jl Mm1 (Jl Mm2 Tt4)))⟩
    exact ⟨rfl,M2,D2,hac,hv2,hd2,hok2,rfl,rfl⟩
  ·refine Jy rfl rfl (Ju (cs:= [_,_,_,_,_,_,_,_,_]) JB rfl (by decide) fun b10=> ?_)
   refine ⟨⟨(Sd (Sd (Sd (Sk (Sd (Sd (Sd (Sd (Sd (Sd (Sr))))))))))),Mm0⟩,?_⟩
   refine Jy rfl rfl (Jm (K8 a.a (J3 D.X+1) (by omega)) (.cons rfl (.cons rfl (.nil))) (by decide) Jx fun u3_5 Lo fs hres=> ?_)
   obtain ⟨p,hp,_,rfl,rfl,rfl⟩:=hres
   refine ⟨⟨(Sd (Sd (Sd (Sk (Sd (Sd (Sd (Sd (Sd (Sd (Sr))))))))))),Mm0⟩,?_⟩
   refine Jy rfl rfl (Jm (K8 a.b 6 (by omega)) (.cons rfl (.cons rfl (.nil))) (by decide) Jx fun u3_8 Lo fs hres=> ?_)
   obtain ⟨w,hw,_,rfl,rfl,rfl⟩:=hres
   refine ⟨⟨(Sd (Sd (Sd (Sk (Sd (Sd (Sd (Sd (Sd (Sd (Sr))))))))))),Mm0⟩,?_⟩
   refine Qe rfl (Yb (o':=0+w) Un43 ti9 rfl rfl (by omega) (by omega) (by simp)) (Qe rfl (Kj (j:=w) (v:= .string (wordA w)) Un9 rfl rfl Mm1 rfl (Xx hw)) ?_)
   have hwd:=VU hw
   refine Jy rfl rfl (J5 (ins_a M D ok hv hb p (by omega) (wordA w) (by have:=hwd.z;omega) hwd.u hwd.n) (.cons rfl (.cons rfl (.cons rfl (.nil)))) (by decide) (.cons (.s (.z)) (.cons (.s (.s (.s (.z)))) (.cons (.s (.s (.s (.z)))) (.cons (.s (.s (.s (.z)))) (.cons (.s (.z)) (.cons (.s (.s (.z))) (.cons (.s (.s (.z))) (.cons (.s (.s (.z))) .nil)))))))) (Jl Mm1 (Jl Mm3 (Jl Mm4 (Jl Mm5 Jx)))) fun u3_11 Lo fs hres=> ?_)
   obtain ⟨_,rfl,M2,D2,hac,hv2,hd2,hok2,rfl,rfl⟩:=hres
   refine ⟨⟨(Sd (Sd (Sd (Sd (Sd (Sd (Sd (Sd (Sd (Sk (Sr))))))))))),Mm3⟩,?_⟩
   refine Qe rfl (Jb rfl) (Qe rfl (Jk (vs:= [_,_]) rfl rfl) (Y5 rfl (Jk (vs:= [_,_]) rfl rfl) (by decide) (JL (J8 rfl rfl (Jq (cs':= [_,_,_,_,_,_,_,_,_]) (vs:= [_,_,_,_,_,_,_,_,_]) JB rfl rfl rfl rfl rfl (Nat.le_of_ble_eq_true rfl) (.s (.s (.s (.s (.s (.s (.s (.s (.z))))))))) (YR rfl (Jd rfl) (by decide) (JK (Jf (Jc (Ja (Lq (Jb rfl) (Lq (Qr Un54 rfl) (Lq (Jd rfl) ?_)))))))))))))
   refine Je (Jf (Jo (JG (Js ?_))))
   refine ⟨_,[_,_,_,_,_,_,_,_],[_,_,_],fun Z w hs=> .tmp rfl (.nil),?_,fun Z w hs=>hs.out (Sk (Sk (Sk (Sk (Sk (Sk (Sk (Sk (Sd (Sd (Sr))))))))))) (Jl Mm0 (Jl Mm1 (Jl Mm2 Tt4)))⟩
   exact ⟨rfl,M2,D2,hac,hv2,hd2,hok2,rfl,rfl⟩
 ·refine Jc (Ja (Lq (Jb rfl) (Lq (Kg rfl rfl) (Lq (Jd rfl) (Je (Jf (Jz rfl (fun h39=> ?_) (fun h39=> ?_))))))))
  ·refine Jc (Jc (Ja (Lq (Jb rfl) (Lq (Kg rfl rfl) (Je (Jf (Jz rfl (fun h43=> ?_) (fun h43=> ?_))))))))
   ·refine Jc (Ja (Lq (Jd rfl) (Je (Jf (Jo (Js (JG (Js ?_))))))))
    refine ⟨_,[_,_,_,_,_,_,_,_],[_,_,_],fun Z w hs=> .tmp rfl (.nil),?_,fun Z w hs=>((((((((hs.pick (.s (.s (.s (.s (.s (.s (.s (.s (.z)))))))))).pick (.s (.s (.s (.s (.s (.s (.s (.s (.z)))))))))).pick (.s (.s (.s (.s (.s (.s (.s (.s (.z)))))))))).pick (.s (.s (.s (.s (.z)))))).pick (.s (.s (.s (.s (.s (.s (.s (.s (.z)))))))))).pick (.s (.s (.s (.s (.s (.s (.s (.s (.z)))))))))).pick (.s (.s (.s (.s (.s (.s (.s (.s (.z)))))))))).pick (.s (.s (.s (.s (.s (.s (.s (.z))))))))).out (Sk (Sk (Sk (Sk (Sk (Sk (Sk (Sk (Sd (Sr)))))))))) (Jl Mm2 (Jl Mm3 (Jl Mm4 (fun _ h=>h))))⟩
    exact ⟨rfl,M,D,Acted.rfl' D,hv,rfl,ok,rfl,rfl⟩
   ·have hvp:0<J3 D.X:=by simp at h43;omega
    refine Jp (Jf (Jc (Ja (Lq (Jh (o':=2) Un93 rfl ti3 rfl rfl) (Lq (Jj Un3 rfl rfl (Ji (Ji (Jn))) rfl) (Lq (Jb rfl) (Jg rfl (Jm (K8 a.a (J3 D.X) (by omega)) (.cons rfl (.cons rfl (.nil))) (by decide) Jx fun u8_3 Lo fs hres=> ?_))))))))
    obtain ⟨p,hp,_,rfl,rfl,rfl⟩:=hres
    refine Lq (Jd rfl) (Je (Jf (Jc (Ja (Lq (Jb rfl) (Lq (Jb rfl) (Lq (Jh (o':=3) Un93 rfl ti3 rfl rfl) (Lq (Jj Un3 rfl rfl (Ji (Ji (Jn))) rfl) (Lq (Jb rfl) (Lq (Jb rfl) (Lq (KJ rfl rfl (by rw [wr64 (by omega)];omega) (c:=((J3 D.X-p:Nat):Int))) (Jg rfl (Jm (K8 a.b (J3 D.X-p) (by omega)) (.cons rfl (.cons rfl (.nil))) (by decide) Jx fun u9_7 Lo fs hres=> ?_)))))))))))))
    obtain ⟨q,hq,_,rfl,rfl,rfl⟩:=hres
    refine Lq (JV rfl rfl (wr64 (by omega)) (c:=((1+q:Nat):Int))) (Jg rfl (J5 (del_a M D ok hv hb p (1+q) (by omega) (by omega)) (.cons rfl (.cons rfl (.cons rfl (.nil)))) (by decide) (.cons (.z) (.cons (.s (.s (.z))) (.cons (.s (.s (.z))) (.cons (.s (.s (.z))) (.cons (.z) (.cons (.s (.z)) (.cons (.s (.z)) (.cons (.s (.z)) .nil)))))))) (Jl Mm0 (Jl Mm2 (Jl Mm3 (Jl Mm4 Jx)))) fun u9_9 Lo fs hres=> ?_))
    obtain ⟨_,_,_,rfl,M2,D2,hac,hv2,hd2,hok2,rfl,rfl⟩:=hres
    refine Lq (Jb rfl) (Lq (Jk (vs:= [_,_]) rfl rfl) (Lq (Jk (vs:= [_,_]) rfl rfl) (Jg rfl (Ju (cs:= [_,_,_,_,_,_,_,_,_]) JB rfl (by decide) fun b13=>Jg rfl (Jq (cs':= [_,_,_,_,_,_,_,_,_]) (vs:= [_,_,_,_,_,_,_,_,_]) JB rfl rfl rfl rfl rfl (Nat.le_of_ble_eq_true rfl) (.z) (Lq (Jd rfl) (Je (Jf (Jc (Ja (Lq (Jb rfl) (Lq (Qr Un54 rfl) (Lq (Jd rfl) ?_)))))))))))))
    refine Je (Jf (Jo (JG (Js ?_))))
    refine ⟨_,[_,_,_,_,_,_,_,_],[_,_,_],fun Z w hs=> .tmp rfl (.nil),?_,fun Z w hs=>hs.out (Sd (Sk (Sk (Sk (Sk (Sk (Sk (Sk (Sk (Sd (Sr))))))))))) (fun _ h=>h)⟩
    exact ⟨rfl,M2,D2,hac,hv2,hd2,hok2,rfl,rfl⟩
  ·refine Jc (Ja (Lq (Jb rfl) (Lq (Kg rfl rfl) (Lq (Jd rfl) (Je (Jf (Jz rfl (fun h63=> ?_) (fun h63=> ?_))))))))
   ·refine Ja (Lq (Jb rfl) (Jg rfl (J5 (undo_a M D ok hv hb) (.cons rfl (.nil)) (by decide) (.cons (.z) (.cons (.s (.s (.z))) (.cons (.s (.s (.z))) (.cons (.s (.s (.z))) (.cons (.z) (.cons (.s (.z)) (.cons (.s (.z)) (.cons (.s (.z)) .nil)))))))) (Jl Mm0 (Jl Mm2 (Jl Mm3 (Jl Mm4 Jx)))) fun u12_1 Lo fs hres=> ?_)))
    obtain ⟨M2,D2,hac,hv2,hd2,hok2,rfl,rfl⟩:=hres
    refine Je (Ka (Jf (Jc (Ja (Lq (Jd rfl) (Je (Jf (Jo ?_))))))))
    refine ⟨_,[_,_,_,_,_,_,_,_],[_,_,_],fun Z w hs=> .tmp rfl (.nil),?_,fun Z w hs=>hs.out (Sk (Sk (Sk (Sk (Sk (Sk (Sk (Sk (Sd (Sr)))))))))) (fun _ h=>h)⟩
    exact ⟨rfl,M2,D2,hac,hv2,hd2,hok2,rfl,rfl⟩
   ·refine Jc (Ja (Lq (Jb rfl) (Lq (Kg rfl rfl) (Lq (Jd rfl) (Je (Jf (Jz rfl (fun h68=> ?_) (fun h68=> ?_))))))))
    ·refine Ja (Lq (Jb rfl) (Jg rfl (J5 (redo_a M D ok hv hb) (.cons rfl (.nil)) (by decide) (.cons (.z) (.cons (.s (.s (.z))) (.cons (.s (.s (.z))) (.cons (.s (.s (.z))) (.cons (.z) (.cons (.s (.z)) (.cons (.s (.z)) (.cons (.s (.z)) .nil)))))))) (Jl Mm0 (Jl Mm2 (Jl Mm3 (Jl Mm4 Jx)))) fun u14_1 Lo fs hres=> ?_)))
     obtain ⟨M2,D2,hac,hv2,hd2,hok2,rfl,rfl⟩:=hres
     refine Je (Ka (Jf (Jc (Ja (Lq (Jd rfl) (Je (Jf (Jo ?_))))))))
     refine ⟨_,[_,_,_,_,_,_,_,_],[_,_,_],fun Z w hs=> .tmp rfl (.nil),?_,fun Z w hs=>hs.out (Sk (Sk (Sk (Sk (Sk (Sk (Sk (Sk (Sd (Sr)))))))))) (fun _ h=>h)⟩
     exact ⟨rfl,M2,D2,hac,hv2,hd2,hok2,rfl,rfl⟩
    ·refine Jc (Ja (Lq (Jb rfl) (Lq (Kg rfl rfl) (Lq (Jd rfl) (Je (Jf (Jz rfl (fun h73=> ?_) (fun h73=> ?_))))))))
     ·refine JI _ _ [] (.c 0 0 (.c 1 0 (.c 2 0 (.c 3 0 (.c 6 0 (.c 7 0 (.c 11 0 (.c 12 0 (.c 4 2 (.c 5 0 (.c 8 2 (.c 9 0 (.c 10 0 (.c 13 2 .nil)))))))))))))) mixed (fun _ _ _ _ h=>h) (Sd (Sd (Sk (Sd (Sd (Sd (Sd (Sd (Sd (Sr)))))))))) (fun _ h=>h) (by kernel_rfl) (by decide) fun ws Z0=>Qe rfl (Jb rfl) (Qe rfl (Jh (o':=3) Un93 rfl ti3 rfl rfl) (Qe rfl (Jj Un3 rfl rfl Jn rfl) (Qe rfl (Jb rfl) (Qe rfl (Jh (o':=2) Un93 rfl ti3 rfl rfl) (Qe rfl (Jj Un3 rfl rfl Jn rfl) (Qe rfl (Jh (o':=5) Un93 rfl ti4 rfl rfl) (Qe rfl (Jj Un4 rfl rfl Jn rfl) ?_)))))))
      refine Jy rfl rfl (Jm (K8 a.b n (by omega)) (.cons rfl (.cons rfl (.nil))) (by decide) Jx fun u16_4 Lo fs hres=> ?_)
      obtain ⟨r1,hr1,_,rfl,rfl,rfl⟩:=hres
      refine ⟨⟨(Sd (Sd (Sk (Sd (Sd (Sd (Sd (Sd (Sd (Sr)))))))))),Mm0⟩,?_⟩
      refine Qe rfl (JV rfl rfl (wr64 (by omega))) (Jy rfl rfl (Jm (K8 a.a 8 (by omega)) (.cons rfl (.cons rfl (.nil))) (by decide) Jx fun u16_8 Lo fs hres=> ?_))
      obtain ⟨r2,hr2,_,rfl,rfl,rfl⟩:=hres
      refine ⟨⟨(Sd (Sd (Sk (Sd (Sd (Sd (Sd (Sd (Sd (Sr)))))))))),Mm0⟩,?_⟩
      refine Qe rfl (JV rfl rfl (wr64 (by omega))) (Qe rfl (J0 (.cons rfl (.cons rfl (.nil))) (bd46_0_1Xg21 _ _)) (Jy rfl rfl (J5 (turn_a M D ok hv hb _ _ a.on) (.cons rfl (.cons rfl (.cons rfl (.nil)))) (by decide) (.cons (.z) (.cons (.s (.s (.z))) (.cons (.s (.s (.z))) (.cons (.s (.s (.z))) (.cons (.z) (.cons (.s (.z)) (.cons (.s (.z)) (.cons (.s (.z)) .nil)))))))) (Jl Mm1 (Jl Mm3 (Jl Mm4 (Jl Mm5 Jx)))) fun u16_13 Lo fs hres=> ?_)))
      obtain ⟨M2,D2,hac,hv2,hd2,hok2,rfl,rfl⟩:=hres
      refine ⟨⟨(Sd (Sd (Sd (Sd (Sd (Sd (Sd (Sd (Sk (Sr)))))))))),Mm3⟩,?_⟩
      refine JL (JK (Ka (Jf (Jc (Ja (Lq (Jd rfl) (Je (Jf (Jo ?_)))))))))
      refine ⟨_,[_,_,_,_,_,_,_,_],[_,_,_],fun Z w hs=> .tmp rfl (.nil),?_,fun Z w hs=>hs.out (Sk (Sk (Sk (Sk (Sk (Sk (Sk (Sk (Sd (Sr)))))))))) (Jl Mm0 (Jl Mm1 (Jl Mm2 Tt4)))⟩
      exact ⟨rfl,M2,D2,hac,hv2,hd2,hok2,rfl,rfl⟩
     ·refine Jc (Ja (Lq (Jb rfl) (Lq (Kg rfl rfl) (Lq (Jd rfl) (Je (Jf (Jz rfl (fun h90=> ?_) (fun h90=> ?_))))))))
      ·refine Jc (Ja (Lq (Jb rfl) (Lq (Jh (o':=2) Un93 rfl ti3 rfl rfl) (Lq (Jj Un3 rfl rfl (Ji (Ji (Jn))) rfl) (Lq (Jb rfl) (Lq (JV rfl rfl (wr64 (by omega)) (c:=((J3 D.X+1:Nat):Int))) (Jg rfl (Jm (K8 a.a (J3 D.X+1) (by omega)) (.cons rfl (.cons rfl (.nil))) (by decide) Jx fun u18_5 Lo fs hres=> ?_))))))))
       obtain ⟨p,hp,_,rfl,rfl,rfl⟩:=hres
       refine Jg rfl (J5 (move_a M D ok hv hb p (by omega)) (.cons rfl (.cons rfl (.nil))) (by decide) (.cons (.z) (.cons (.s (.s (.z))) (.cons (.s (.s (.z))) (.cons (.s (.s (.z))) (.cons (.z) (.cons (.s (.z)) (.cons (.s (.z)) (.cons (.s (.z)) .nil)))))))) (Jl Mm0 (Jl Mm2 (Jl Mm3 (Jl Mm4 Jx)))) fun u18_6 Lo fs hres=> ?_)
       obtain ⟨rfl,M2,D2,hac,hv2,hd2,hok2,rfl,rfl⟩:=hres
       refine Lq (Qr Un54 rfl) (Lq (Jd rfl) (Je (Jf (Jo (JG (Js ?_))))))
       refine ⟨_,[_,_,_,_,_,_,_,_],[_,_,_],fun Z w hs=> .tmp rfl (.nil),?_,fun Z w hs=>hs.out (Sk (Sk (Sk (Sk (Sk (Sk (Sk (Sk (Sd (Sr)))))))))) (fun _ h=>h)⟩
       exact ⟨rfl,M2,D2,hac,hv2,hd2,hok2,rfl,rfl⟩
      ·refine Jp (Ka (Jf (Jc (Ja (Lq (Jd rfl) (Je (Jf (Jo ?_))))))))
       refine ⟨_,[_,_,_,_,_,_,_,_],[_,_,_],fun Z w hs=> .tmp rfl (.nil),?_,fun Z w hs=>((((((((hs.pick (.s (.s (.s (.s (.s (.s (.s (.s (.z)))))))))).pick (.s (.s (.s (.s (.s (.s (.s (.s (.z)))))))))).pick (.s (.s (.s (.s (.s (.s (.s (.s (.z)))))))))).pick (.s (.s (.s (.s (.z)))))).pick (.s (.s (.s (.s (.s (.s (.s (.s (.z)))))))))).pick (.s (.s (.s (.s (.s (.s (.s (.s (.z)))))))))).pick (.s (.s (.s (.s (.s (.s (.s (.s (.z)))))))))).pick (.s (.s (.s (.s (.s (.s (.s (.z))))))))).out (Sk (Sk (Sk (Sk (Sk (Sk (Sk (Sk (Sd (Sr)))))))))) (Jl Mm2 (Jl Mm3 (Jl Mm4 (fun _ h=>h))))⟩
       exact ⟨rfl,M,D,Acted.rfl' D,hv,rfl,ok,rfl,rfl⟩
abbrev Rm:=List (DM×DS)
def Yr (Rs:Rm):List Part:=Rs.flatMap fun r=>KA r.1 r.2
def K6 (Rs:Rm):Part:=(Yr Rs).flatten
def Vm (Rs:Rm):List Fact:=Rs.flatMap fun r=>KV r.1 r.2
def RoomF (Rs:Rm):Fact where
 holds Z w:= ∀A∈Vm Rs,A.holds Z w
 stable hz hh h1 h2 h3 h:=fun A hA=>A.stable hz hh h1 h2 h3 (h A hA)
theorem room_split (Rs:Rm) {i:Nat} (hi:i<Rs.length):Rs=Rs.take i++Rs[i] ::Rs.drop (i+1):=by
 rw [←List.drop_eq_getElem_cons hi,List.take_append_drop]
theorem Et (Rs:Rm) {i:Nat} (hi:i<Rs.length) (x:DM×DS):Rs.set i x=Rs.take i++x::Rs.drop (i+1):=List.set_eq_take_append_cons_drop ▸ (by rw [if_pos hi])
theorem ER (R1 R2:Rm) (x:DM×DS):Yr (R1++x::R2)=Yr R1++(KA x.1 x.2++Yr R2):=by unfold Yr;rw [List.flatMap_append,List.flatMap_cons]
theorem Qp (R1 R2:Rm) (x:DM×DS):Vm (R1++x::R2)=Vm R1++(KV x.1 x.2++Vm R2):=by unfold Vm;rw [List.flatMap_append,List.flatMap_cons]
theorem room_perm (R1 R2:Rm) (x:DM×DS) (Ps:List Part):(KA x.1 x.2++(Yr R1++(Yr R2++Ps))).flatten.Perm ([K6 (R1++x::R2)] ++Ps).flatten:=by
 unfold K6
 rw [ER]
 generalize KA x.1 x.2=Q
 have e:([(Yr R1++(Q++Yr R2)).flatten] ++Ps).flatten=(Yr R1).flatten++(Q.flatten++((Yr R2).flatten++Ps.flatten)):=by
  simp only [List.cons_append,List.nil_append,List.flatten_cons,List.flatten_append,List.append_assoc]
 rw [e]
 simp only [List.flatten_append]
 exact List.perm_append_comm_assoc ..
theorem _root_.Go.GW.Sp.room {P:Program} {k:FuncId} {args:List Value} {pre:List Fact} {res:Value→List Part→List Fact→Prop} {Rs:Rm} (i:Nat) (hi:i<Rs.length) (h:Sp P k args (KA Rs[i].1 Rs[i].2) (pre++KV Rs[i].1 Rs[i].2) res) (post:Value→DM→DS→List Fact→Prop)
  (hr: ∀v Lo fs,res v Lo fs→ ∃M2 D2 gs,post v M2 D2 gs∧Lo=KA M2 D2∧(∀A∈KV M2 D2++gs,A∈fs++(pre++KV Rs[i].1 Rs[i].2))):
  Sp P k args [K6 Rs] (pre++ [RoomF Rs]) (fun v Lo fs=> ∃M2 D2 gs,post v M2 D2 gs∧Lo= [K6 (Rs.set i (M2,D2))] ∧fs=RoomF (Rs.set i (M2,D2))::gs):=by
 refine ⟨h.enters,fun Z w Ps As hs=> ?_⟩
 have hsp:=room_split Rs hi
 have hRF:(RoomF Rs).holds Z w:=hs.facts _ (by simp)
 have h1:St Z w (KA Rs[i].1 Rs[i].2++(Yr (Rs.take i)++(Yr (Rs.drop (i+1))++Ps))) ((pre++KV Rs[i].1 Rs[i].2)++(RoomF Rs::As)):=by
  refine ⟨hs.zlt,fun q hq=>hs.own q ?_,?_,fun A hA=> ?_⟩
  ·have:=(room_perm (Rs.take i) (Rs.drop (i+1)) Rs[i] Ps).subset hq
   rw [←hsp] at this;exact this
  ·have hp:=(room_perm (Rs.take i) (Rs.drop (i+1)) Rs[i] Ps).map Prod.fst
   rw [←hsp] at hp
   exact hp.nodup_iff.2 hs.nodup
  ·rcases List.mem_append.1 hA with hA | hA
   ·rcases List.mem_append.1 hA with hA | hA
    ·exact hs.facts A (List.mem_append_left _ (List.mem_append_left _ hA))
    ·refine hRF A ?_
     rw [hsp,Qp]
     exact List.mem_append_right _ (List.mem_append_left _ hA)
   ·rcases List.mem_cons.1 hA with rfl | hA
    ·exact hRF
    ·exact hs.facts A (List.mem_append_right _ hA)
 refine (h.calls Z w _ _ h1).mono ?_
 rintro e w' ⟨v,rfl,Z',Lo,fs,g1,g2⟩
 obtain ⟨M2,D2,gs,p1,rfl,p3⟩:=hr v Lo fs g1
 refine ⟨v,rfl,Z',_,_,⟨M2,D2,gs,p1,rfl,rfl⟩,?_⟩
 have hset:=Et Rs hi (M2,D2)
 have hfacts: ∀A∈KV M2 D2++gs,A.holds Z' w':=fun A hA=>g2.facts A (by
  rcases List.mem_append.1 (p3 A hA) with h | h
  ·exact List.mem_append_left _ h
  ·exact List.mem_append_right _ (List.mem_append_left _ h))
 have hRF2:(RoomF Rs).holds Z' w':=g2.facts _ (List.mem_append_right _ (List.mem_append_right _ (List.mem_cons_self)))
 refine ⟨g2.zlt,fun q hq=>g2.own q ?_,?_,fun A hA=> ?_⟩
 ·rw [hset] at hq
  exact (room_perm (Rs.take i) (Rs.drop (i+1)) (M2,D2) Ps).symm.subset hq
 ·rw [hset]
  exact ((room_perm (Rs.take i) (Rs.drop (i+1)) (M2,D2) Ps).map Prod.fst).nodup_iff.1 g2.nodup
 ·rcases List.mem_append.1 hA with hA | hA
  ·rcases List.mem_cons.1 hA with rfl | hA
   ·intro B hB
    rw [hset,Qp] at hB
    rcases List.mem_append.1 hB with hB | hB
    ·refine hRF2 B ?_
     rw [hsp,Qp];exact List.mem_append_left _ hB
    ·rcases List.mem_append.1 hB with hB | hB
     ·exact hfacts B (List.mem_append_left _ hB)
     ·refine hRF2 B ?_
      rw [hsp,Qp];exact List.mem_append_right _ (List.mem_append_right _ hB)
   ·exact hfacts A (List.mem_append_right _ hA)
  ·rcases List.mem_append.1 hA with hA | hA
   ·rcases List.mem_append.1 hA with hA | hA
    ·exact g2.facts A (List.mem_append_right _ (List.mem_append_left _ (List.mem_append_left _ hA)))
    ·have:=List.mem_singleton.1 hA
     subst this;exact hRF2
   ·exact g2.facts A (List.mem_append_right _ (List.mem_append_right _ (.tail _ hA)))
theorem _root_.Go.GW.WC_openRm {P:Program} {n:Dm} {R:Post} {l:Fr} {Ps:List Part} {As:List Fact} {c:Code} {Rs:Rm} (i:Nat) (hi:i<Rs.length) (hF:RoomF Rs∈As) (h:WC P n c R l (KA Rs[i].1 Rs[i].2++Ps) (KV Rs[i].1 Rs[i].2++As)):WC P n c R l (K6 Rs::Ps) As:=by
 intro Z w a hs ha
 have hsp:=room_split Rs hi
 have hRF:(RoomF Rs).holds Z w:=hs.facts _ hF
 refine h Z w a ⟨hs.zlt,fun q hq=>hs.own q ?_,?_,fun A hA=> ?_⟩ ha
 all_goals
  have hp:=room_perm (Rs.take i) (Rs.drop (i+1)) Rs[i] Ps
  rw [←hsp] at hp
 ·have hsub:(KA Rs[i].1 Rs[i].2++Ps).flatten ⊆ (KA Rs[i].1 Rs[i].2++(Yr (Rs.take i)++(Yr (Rs.drop (i+1))++Ps))).flatten:=by
   intro q hq
   simp only [List.flatten_append,List.mem_append] at hq ⊢
   exact hq.elim .inl (fun h=> .inr (.inr (.inr h)))
  exact hp.subset (hsub hq)
 ·have h1:=(hp.map Prod.fst).nodup_iff.2 hs.nodup
  have hsub:((KA Rs[i].1 Rs[i].2++Ps).flatten).Sublist (KA Rs[i].1 Rs[i].2++(Yr (Rs.take i)++(Yr (Rs.drop (i+1))++Ps))).flatten:=by
   simp only [List.flatten_append]
   exact List.Sublist.append (Sr) ((List.sublist_append_right _ _).trans (List.sublist_append_right _ _))
  exact (hsub.map Prod.fst).nodup h1
 ·rcases List.mem_append.1 hA with hA | hA
  ·refine hRF A ?_
   rw [hsp,Qp]
   exact List.mem_append_right _ (List.mem_append_left _ hA)
  ·exact hs.facts A hA
def ptD:De Nat where
 sz:=1
 rep _ _ x cs:=cs= [.pointer (some ⟨x,0,none⟩)]
 len h:=by subst h;rfl
 one h:=by subst h;rfl
 stable _ _ _ _ _ h:=h
theorem pt_open (u:Nat): ∀Z w cs,ptD.rep Z w u cs→ ∃y:Unit,cs= [.pointer (some ⟨u,0,none⟩)] ∧ ∀B∈([] :List Fact),B.holds Z w:=fun _ _ _ h=>⟨(),h,fun _ h=>by cases h⟩
abbrev adsF (A:Option Addr) (c:Nat) (Rs:Rm):Fact:=RdF ptD A c (Rs.map fun r=>r.1.d)
def pendN (D:DS):Nat:=D.H.ops.length-D.got
structure RmI (k:Nat) (Rs:Rm) (G:List GOp):Prop where
 len:2≤Rs.length∧Rs.length≤4
 ok: ∀r∈Rs,DkOk r.1 r.2
 dv: ∀r∈Rs,DV r.2
 lm: ∀r∈Rs,r.2.cl=4∧r.2.ce=4096∧r.2.op=1024
 us: ∀(i:Nat) r,Rs[i]? =some r→r.2.u=(i:Int)+1
 got: ∀r∈Rs,r.2.H.ops.take r.2.got=G∧r.2.got=G.length
 pd: ∀r∈Rs,∀o∈r.2.H.ops.drop r.2.got,o.c=r.2.u
 cnt:G.length+(Rs.map fun r=>pendN r.2).sum≤k
 md: ∀r∈Rs,r.2.made≤k
theorem sum_mid {Rs:Rm} (f:DM×DS→Nat) {i:Nat} (hi:i<Rs.length):(Rs.map f).sum=((Rs.take i).map f).sum+(f Rs[i] +((Rs.drop (i+1)).map f).sum):=by
 conv=>lhs;rw [room_split Rs hi]
 rw [List.map_append,List.sum_append,List.map_cons,List.sum_cons]
theorem Jae {Rs:Rm} (f:DM×DS→Nat) {i:Nat} (hi:i<Rs.length) (x:DM×DS):((Rs.set i x).map f).sum+f Rs[i] =(Rs.map f).sum+f x:=by
 rw [Et Rs hi,List.map_append,List.sum_append,List.map_cons,List.sum_cons,sum_mid f hi]
 omega
theorem RmI.n {k:Nat} {Rs:Rm} {G:List GOp} (h:RmI k Rs G): ∀r∈Rs,r.2.H.ops.length≤k∧r.2.H.ops.length=G.length+pendN r.2:=fun r hr=>by
 obtain ⟨i,hi,rfl⟩:=List.mem_iff_getElem.1 hr
 have h1:=h.cnt
 rw [sum_mid (fun r=>pendN r.2) hi] at h1
 have h2:=(h.got _ hr).2
 have h3:=(h.ok _ hr).rc
 unfold pendN at h1 ⊢
 omega
theorem RmI.bd {k:Nat} {Rs:Rm} {G:List GOp} (h:RmI k Rs G) (hk:k≤600): ∀r∈Rs,Bd r.2:=fun r hr=>by
 have h1:=(h.n r hr).1
 have h2:=h.md r hr
 have h3:=h.lm r hr
 exact ⟨by omega,by omega,by omega⟩
theorem RmI.mono {k k':Nat} {Rs:Rm} {G:List GOp} (h:RmI k Rs G) (hk:k≤k'):RmI k' Rs G:=
 ⟨h.len,h.ok,h.dv,h.lm,h.us,h.got,h.pd,by have:=h.cnt;omega,fun r hr=>by have:=h.md r hr;omega⟩
theorem RmI.act {k:Nat} {Rs:Rm} {G:List GOp} (h:RmI k Rs G) {i:Nat} (hi:i<Rs.length) {M2:DM} {D2:DS} (ha:Acted Rs[i].2 D2) (hv:DV D2) (hok:DkOk M2 D2):RmI (k+1) (Rs.set i (M2,D2)) G:=by
 have hm:=List.getElem_mem hi
 have hmem: ∀ {r},r∈Rs.set i (M2,D2)→r∈Rs∨r=(M2,D2):=fun hr=>List.mem_or_eq_of_mem_set hr
 have hg:=h.got _ hm
 have hrc:=(h.ok _ hm).rc
 have hl:=h.lm _ hm
 have hgot:D2.got=Rs[i].2.got:=ha.got
 have hops:(D2.H.ops=Rs[i].2.H.ops∧D2.made=Rs[i].2.made)∨ ∃o,o.c=Rs[i].2.u∧D2.H.ops=Rs[i].2.H.ops++ [o] ∧D2.made=Rs[i].2.made+1:=by
  rcases ha.cm with ⟨h1,_,h3⟩ | ⟨o,h1,_,h3,h4⟩
  ·exact .inl ⟨by rw [h1],h3⟩
  ·exact .inr ⟨o,h1,h3,h4⟩
 refine ⟨by rw [List.length_set];exact h.len,fun r hr=> ?_,fun r hr=> ?_,fun r hr=> ?_,fun j r hj=> ?_,fun r hr=> ?_,fun r hr=> ?_,?_,fun r hr=> ?_⟩
 ·rcases hmem hr with hr | rfl
  ·exact h.ok r hr
  ·exact hok
 ·rcases hmem hr with hr | rfl
  ·exact h.dv r hr
  ·exact hv
 ·rcases hmem hr with hr | rfl
  ·exact h.lm r hr
  ·have:=ha.lm
   simp only
   rw [this.1,this.2.1,this.2.2];exact hl
 ·rw [List.getElem?_set] at hj
  split at hj
  ·rename_i e
   subst e
   obtain rfl:=Option.some.inj hj
   show D2.u=_
   rw [ha.u];exact h.us i _ (List.getElem?_eq_getElem hi)
  ·exact h.us j r hj
 ·rcases hmem hr with hr | rfl
  ·exact h.got r hr
  ·simp only
   rw [hgot]
   refine ⟨?_,hg.2⟩
   rcases hops with ⟨e,_⟩ | ⟨o,_,e,_⟩
   ·rw [e];exact hg.1
   ·rw [e,List.take_append_of_le_length hrc];exact hg.1
 ·rcases hmem hr with hr | rfl
  ·exact h.pd r hr
  ·simp only
   rw [hgot,ha.u]
   rcases hops with ⟨e,_⟩ | ⟨o,ho,e,_⟩
   ·rw [e];exact h.pd _ hm
   ·rw [e,List.drop_append_of_le_length hrc]
    intro x hx
    rcases List.mem_append.1 hx with hx | hx
    ·exact h.pd _ hm x hx
    ·rw [List.mem_singleton.1 hx];exact ho
 ·have h1:=Jae (fun r=>pendN r.2) hi (M2,D2)
  have h2:=h.cnt
  have h3:pendN D2≤pendN Rs[i].2+1:=by
   unfold pendN
   rw [hgot]
   rcases hops with ⟨e,_⟩ | ⟨o,_,e,_⟩
   ·rw [e];omega
   ·rw [e,List.length_append,List.length_singleton];omega
  simp only at h1
  omega
 ·rcases hmem hr with hr | rfl
  ·have:=h.md r hr;omega
  ·have:=h.md _ hm
   simp only
   rcases hops with ⟨_,e⟩ | ⟨_,_,_,e⟩<;>omega
theorem CtxOk.at_: ∀ {w:Int} {l:List GOp} {k:Nat} (hk:k<l.length),CtxOk w l→Right (w+sumO (l.take k)) l[k]
 | w,o::l,0,_,h=>by simpa [sumO] using h.1
 | w,o::l,k+1,hk,h=>by
  have:=CtxOk.at_ (w:=w+Jw o) (l:=l) (k:=k) (by simpa using hk) h.2
  rw [List.take_succ_cons,sumO,List.getElem_cons_succ,←Int.add_assoc];exact this
theorem ids_ops (H:Hist):(H.ents.map fun e=>(e.op.c,e.op.n))=H.ops.map fun o=>(o.c,o.n):=by unfold Hist.ops;rw [List.map_map];rfl
theorem RmI.good {k:Nat} {Rs:Rm} {G:List GOp} (h:RmI k Rs G) (hk:k≤600) {a:Nat} (ha:a<Rs.length) {p:GOp} (hp:Rs[a].2.H.ops[Rs[a].2.got]? =some p) {i:Nat} (hi:i<Rs.length) (hne:i≠a):Good Rs[i].2.H Rs[i].2.got p:=by
 have ma:=List.getElem_mem ha
 have mi:=List.getElem_mem hi
 have va:=(h.dv _ ma).di
 have vi:=(h.dv _ mi).di
 have hga:=h.got _ ma
 have hgi:=h.got _ mi
 have hra:=(h.ok _ ma).rc
 have hri:=(h.ok _ mi).rc
 have hla:Rs[a].2.got<Rs[a].2.H.ops.length:=by
  rcases Nat.lt_or_ge Rs[a].2.got Rs[a].2.H.ops.length with h | h
  ·exact h
  ·rw [List.getElem?_eq_none h] at hp;cases hp
 have hpe:Rs[a].2.H.ops[Rs[a].2.got] =p:=by rw [List.getElem?_eq_getElem hla] at hp;exact Option.some.inj hp
 have hpm:p∈Rs[a].2.H.ops:=hpe ▸ List.getElem_mem hla
 have hpc:p.c=Rs[a].2.u:=h.pd _ ma p (List.mem_iff_getElem?.2 ⟨0,by rw [List.getElem?_drop,Nat.add_zero];exact hp⟩)
 have hua:=h.us a _ (List.getElem?_eq_getElem ha)
 have hui:=h.us i _ (List.getElem?_eq_getElem hi)
 have hni:=(h.n _ mi).1
 have hti:=(h.dv _ mi).total
 refine ⟨by rw [←KQ];exact hri,?_,?_,?_,?_,?_⟩
 ·rw [before_ops,hgi.1,←hga.1]
  have:=CtxOk.at_ hla va.hv.ctx
  rw [Int.zero_add,hpe] at this
  exact this
 ·cases hw:JZ Rs[i].2.H.ents p.c p.n with
  | none=>rfl
  | some j=>
   exfalso
   obtain ⟨hj,g1,g2⟩:=KB hw
   have hjo:j<Rs[i].2.H.ops.length:=by rw [KQ];exact hj
   have hoj:Rs[i].2.H.ops[j] =Rs[i].2.H.ents[j].op:=by simp [Hist.ops]
   rcases Nat.lt_or_ge j Rs[i].2.got with hlt | hge
   ·--it is among the received ones:twice in a's order
    have e1:Rs[a].2.H.ops[j]? =some Rs[i].2.H.ops[j] :=by
     have e2:(Rs[i].2.H.ops.take Rs[i].2.got)[j]? =some Rs[i].2.H.ops[j] :=by rw [List.getElem?_take,if_pos hlt,List.getElem?_eq_getElem hjo]
     rw [hgi.1,←hga.1,List.getElem?_take] at e2
     split at e2
     ·exact e2
     ·cases e2
    have hja:j<Rs[a].2.H.ops.length:=by
     rcases Nat.lt_or_ge j Rs[a].2.H.ops.length with h | h
     ·exact h
     ·rw [List.getElem?_eq_none h] at e1;cases e1
    rw [List.getElem?_eq_getElem hja] at e1
    have e1:=Option.some.inj e1
    have hnd:=va.hv.ids
    rw [ids_ops] at hnd
    have:=List.getElem_inj (h₀:=by rw [List.length_map];exact hja) (h₁:=by rw [List.length_map];exact hla) hnd (i:=j) (j:=Rs[a].2.got)
    simp only [List.getElem_map,Prod.mk.injEq] at this
    have:=this.1 ⟨by rw [e1,hoj,hpe];exact g1,by rw [e1,hoj,hpe];exact g2⟩
    have:=hga.2
    have:=hgi.2
    omega
   ·have hm:Rs[i].2.H.ops[j] ∈Rs[i].2.H.ops.drop Rs[i].2.got:=List.mem_iff_getElem?.2 ⟨j-Rs[i].2.got,by rw [List.getElem?_drop,Nat.add_sub_cancel' hge,List.getElem?_eq_getElem hjo]⟩
    have:=h.pd _ mi _ hm
    rw [hoj,g1,hpc] at this
    omega
 ·obtain ⟨x,hx,hxe⟩:=List.mem_map.1 hpm
  have:=va.hv.idr x hx
  rw [hxe] at this;exact this
 ·intro h4
  have hT:=(va.made.ci (by have:=va.le;omega)).tgt
  rw [show Rs[a].2.H.ops=Rs[a].2.H.ops.take Rs[a].2.got++(p::Rs[a].2.H.ops.drop (Rs[a].2.got+1)) by rw [←hpe,←List.drop_eq_getElem_cons hla,List.take_append_drop],TgtOk.append,List.nil_append] at hT
  obtain ⟨q,p1,p2,p3,p4⟩:=hT.2.1 h4
  rw [hga.1,←hgi.1] at p1
  obtain ⟨j,hj,hq⟩:=List.mem_iff_getElem.1 p1
  rw [List.length_take] at hj
  rw [List.getElem_take] at hq
  have hjl:j<Rs[i].2.H.ents.length:=by rw [←KQ];omega
  have hje:Rs[i].2.H.ents[j].op=q:=by rw [←hq];simp [Hist.ops]
  refine ⟨j,?_,by omega,Rs[i].2.H.ents[j],List.getElem?_eq_getElem hjl,by rw [hje];exact p4⟩
  have:=YZ vi.hv.ids hjl
  rw [hje,p2,p3] at this;exact this
 ·have:=(h.dv _ ma).wb p hpm
  omega
theorem take_ops {D:DS} (hdi:DI D.H.ops.length D.H D.X) {o:GOp} (g:Good D.H D.got o):(KZ D o).H.ops=D.H.ops.take D.got++([o] ++(JR o (D.H.ops.drop D.got)).2)∧Sames (D.H.ops.drop D.got) (JR o (D.H.ops.drop D.got)).2:=
 ⟨hdi.ops g,(cross_good hdi.hv g).2.2.2.2⟩
theorem Sames.mem {l m:List GOp} (h:Sames l m): ∀x∈m,∃y∈l,Same y x:=by
 induction h with
 | nil=>intro x hx;cases hx
 | cons h hr ih=>
  intro x hx
  rcases List.mem_cons.1 hx with rfl | hx
  ·exact ⟨_,List.mem_cons_self,h⟩
  ·obtain ⟨y,hy,hs⟩:=ih x hx
   exact ⟨y,List.mem_cons_of_mem _ hy,hs⟩
theorem DV.take {D:DS} (h:DV D) {o:GOp} (g:Good D.H D.got o) (hn:D.H.ops.length<900) (hc:o.c≠D.u) (hw:Jw o≤5) (hrc:D.got≤D.H.ops.length):DV (KZ D o):=by
 have T:=g.tad h.di hn
 obtain ⟨e,hs⟩:=take_ops h.di g
 have hpu:=h.put_ o.c
 have hnl:=T.nl
 have hmem: ∀x∈(KZ D o).H.ops,(∃y∈D.H.ops,Same y x)∨x=o:=fun x hx=>by
  rw [e] at hx
  rcases List.mem_append.1 hx with hx | hx
  ·exact .inl ⟨x,List.mem_of_mem_take hx,Same.refl x⟩
  ·rcases List.mem_append.1 hx with hx | hx
   ·exact .inr (List.mem_singleton.1 hx)
   ·obtain ⟨y,hy,hxy⟩:=hs.mem x hx
    exact .inl ⟨y,List.mem_of_mem_drop hy,hxy⟩
 refine ⟨h.us,fun x hx hxc=> ?_,h.sid,fun x hx=> ?_,fun x hx=> ?_,?_,?_⟩
 ·rcases hmem x hx with ⟨y,hy,hxy⟩ | rfl
  ·rw [hxy.n];exact h.own y hy (by rw [←hxy.c];exact hxc)
  ·exact absurd hxc hc
 ·show 0≤x∧x≤5*((putF D.H D.got o).1.ops.length:Int)
  rw [hnl]
  have hx2:x∈D.put.set o.c.toNat (putA D o.c+Jw o):=hx
  have hw0:=T.w0
  rcases List.mem_or_eq_of_mem_set hx2 with hx | rfl
  ·have:=h.pb x hx;omega
  ·omega
 ·rcases hmem x hx with ⟨y,hy,hxy⟩ | rfl
  ·rw [hxy.width];exact h.wb y hy
  ·exact hw
 ·show DI (putF D.H D.got o).1.ops.length _ _
  rw [hnl];exact T.di
 ·show (D.put.set _ _).length=9
  rw [List.length_set];exact h.pl
theorem DV.conf {D:DS} (h:DV D):DV (confD D):=⟨h.us,h.own,h.sid,h.pb,h.wb,h.di,h.pl⟩
structure SentS (Rs:Rm) (a i:Nat) (p:GOp) (Rs':Rm):Prop where
 len:Rs'.length=Rs.length
 d:(Rs'.map fun r=>r.1.d)=Rs.map fun r=>r.1.d
 ok: ∀r∈Rs',DkOk r.1 r.2
 st: ∀(t:Nat) (h:t<Rs.length) (h':t<Rs'.length),Rs'[t].2=if t=a then confD Rs[t].2 else if t<i then KZ Rs[t].2 p else Rs[t].2
theorem map_set_d {Rs:Rm} {i:Nat} (hi:i<Rs.length) {M2:DM} {D2:DS} (hd:M2.d=Rs[i].1.d):((Rs.set i (M2,D2)).map fun r=>r.1.d)=Rs.map fun r=>r.1.d:=by
 rw [List.map_set]
 have e:(M2,D2).1.d=(Rs.map fun r=>r.1.d)[i]'(by simpa using hi):=by rw [List.getElem_map];exact hd
 rw [e,List.set_getElem_self]
theorem SentS.zero {Rs:Rm} {a:Nat} (ha:a<Rs.length) (hok: ∀r∈Rs,DkOk r.1 r.2) (p:GOp) (hc:DkOk Rs[a].1 (confD Rs[a].2)):SentS Rs a 0 p (Rs.set a (Rs[a].1,confD Rs[a].2)):=by
 refine ⟨List.length_set,map_set_d ha rfl,fun r hr=> ?_,fun t h h'=> ?_⟩
 ·rcases List.mem_or_eq_of_mem_set hr with hr | rfl
  ·exact hok r hr
  ·exact hc
 ·rw [List.getElem_set]
  by_cases e:a=t
  ·subst e;rw [if_pos rfl,if_pos rfl]
  ·rw [if_neg e,if_neg (fun h=>e h.symm),if_neg (Nat.not_lt_zero _)]
theorem SentS.skip {Rs:Rm} {a:Nat} {p:GOp} {Rs':Rm} (h:SentS Rs a a p Rs'):SentS Rs a (a+1) p Rs':=
 ⟨h.len,h.d,h.ok,fun t h1 h2=>by
  rw [h.st t h1 h2]
  by_cases e:t=a
  ·rw [if_pos e,if_pos e]
  ·rw [if_neg e,if_neg e]
   by_cases e2:t<a
   ·rw [if_pos e2,if_pos (by omega)]
   ·rw [if_neg e2,if_neg (by omega)]⟩
theorem SentS.old {Rs:Rm} {a i:Nat} {p:GOp} {Rs':Rm} (h:SentS Rs a i p Rs') (hne:i≠a) (hi:i<Rs.length) (hi':i<Rs'.length):Rs'[i].2=Rs[i].2:=by
 rw [h.st i hi hi',if_neg hne,if_neg (Nat.lt_irrefl _)]
theorem SentS.take {Rs:Rm} {a i:Nat} {p:GOp} {Rs':Rm} (h:SentS Rs a i p Rs') (hne:i≠a) (hi:i<Rs.length) (hi':i<Rs'.length) {M2:DM} (hd:M2.d=Rs'[i].1.d) (hk:DkOk M2 (KZ Rs'[i].2 p)):SentS Rs a (i+1) p (Rs'.set i (M2,KZ Rs'[i].2 p)):=by
 refine ⟨by rw [List.length_set];exact h.len,by rw [map_set_d hi' hd];exact h.d,fun r hr=> ?_,fun t h1 h2=> ?_⟩
 ·rcases List.mem_or_eq_of_mem_set hr with hr | rfl
  ·exact h.ok r hr
  ·exact hk
 ·rw [List.getElem_set]
  by_cases e:i=t
  ·subst e
   rw [if_pos rfl,if_neg hne,if_pos (by omega)]
   show KZ Rs'[i].2 p=_
   rw [h.old hne hi hi']
  ·rw [if_neg e,h.st t h1 (by rw [h.len];exact h1)]
   by_cases e1:t=a
   ·rw [if_pos e1,if_pos e1]
   ·rw [if_neg e1,if_neg e1]
    by_cases e2:t<i
    ·rw [if_pos e2,if_pos (by omega)]
    ·rw [if_neg e2,if_neg (by omega)]
theorem sum_nth: ∀(f g:DM×DS→Nat) (Rs Rs':Rm) (a:Nat),Rs'.length=Rs.length→a<Rs.length→(∀(t:Nat) (h:t<Rs.length) (h':t<Rs'.length),g Rs'[t] =if t=a then f Rs[t] - 1 else f Rs[t])→(∀(h:a<Rs.length),0<f Rs[a])→(Rs'.map g).sum+1=(Rs.map f).sum
 | f,g,[],[],a,_,ha,_,_=>by simp at ha
 | f,g,x::Rs,y::Rs',0,hl,ha,hs,hp=>by
  have h0:=hs 0 (by simp) (by simp)
  have h1:=hp (by simp)
  simp only [List.getElem_cons_zero,if_true] at h0 h1
  have hr:Rs'.map g=Rs.map f:=by
   apply List.ext_getElem
   ·simpa using hl
   ·intro t q1 q2
    rw [List.getElem_map,List.getElem_map]
    have:=hs (t+1) (by simpa using q2) (by simpa using q1)
    simpa using this
  simp only [List.map_cons,List.sum_cons,hr]
  omega
 | f,g,x::Rs,y::Rs',a+1,hl,ha,hs,hp=>by
  have h0:=hs 0 (by simp) (by simp)
  simp only [List.getElem_cons_zero] at h0
  rw [if_neg (by omega)] at h0
  have ih:=sum_nth f g Rs Rs' a (by simpa using hl) (by simpa using ha) (fun t h h'=>by
   have:=hs (t+1) (by simpa using h) (by simpa using h')
   simpa using this) (fun h=>hp (Nat.succ_lt_succ h))
  simp only [List.map_cons,List.sum_cons]
  omega
theorem SentS.done {k:Nat} {Rs:Rm} {G:List GOp} (h:RmI k Rs G) (hk:k≤600) {a:Nat} (ha:a<Rs.length) {p:GOp} (hp:Rs[a].2.H.ops[Rs[a].2.got]? =some p) {Rs':Rm} (hs:SentS Rs a Rs.length p Rs'):RmI k Rs' (G++ [p]):=by
 have ma:=List.getElem_mem ha
 have hga:=h.got _ ma
 have hla:Rs[a].2.got<Rs[a].2.H.ops.length:=by
  rcases Nat.lt_or_ge Rs[a].2.got Rs[a].2.H.ops.length with h | h
  ·exact h
  ·rw [List.getElem?_eq_none h] at hp;cases hp
 have hpe:Rs[a].2.H.ops[Rs[a].2.got] =p:=by rw [List.getElem?_eq_getElem hla] at hp;exact Option.some.inj hp
 have hpm:p∈Rs[a].2.H.ops:=hpe ▸ List.getElem_mem hla
 have hpc:p.c=Rs[a].2.u:=h.pd _ ma p (List.mem_iff_getElem?.2 ⟨0,by rw [List.getElem?_drop,Nat.add_zero];exact hp⟩)
 have hua:=h.us a _ (List.getElem?_eq_getElem ha)
 have key: ∀r'∈Rs',∃t,∃(h1:t<Rs.length) (h2:t<Rs'.length),r'=Rs'[t] ∧((t=a∧Rs'[t].2=confD Rs[t].2)∨(t≠a∧Rs'[t].2=KZ Rs[t].2 p∧Good Rs[t].2.H Rs[t].2.got p)):=fun r' hr'=>by
  obtain ⟨t,ht,rfl⟩:=List.mem_iff_getElem.1 hr'
  have ht1:t<Rs.length:=by rw [←hs.len];exact ht
  refine ⟨t,ht1,ht,rfl,?_⟩
  have:=hs.st t ht1 ht
  by_cases e:t=a
  ·exact .inl ⟨e,by rw [this,if_pos e]⟩
  ·exact .inr ⟨e,by rw [this,if_neg e,if_pos ht1],h.good hk ha hp ht1 e⟩
 have hpend: ∀(t:Nat) (h1:t<Rs.length) (h2:t<Rs'.length),pendN Rs'[t].2=if t=a then pendN Rs[t].2-1 else pendN Rs[t].2:=fun t h1 h2=>by
  have mt:=List.getElem_mem h1
  rcases key _ (List.getElem_mem h2) with ⟨t',g1,g2,e,hh⟩
  have:=hs.st t h1 h2
  by_cases e:t=a
  ·rw [if_pos e] at this ⊢
   rw [this]
   unfold pendN confD
   simp only
   omega
  ·rw [if_neg e,if_pos h1] at this
   rw [if_neg e,this]
   have g:=h.good hk ha hp h1 e
   have hl:=(take_ops (h.dv _ mt).di g)
   have hlen:=congrArg List.length hl.1
   have hsl:=hl.2.length
   have hrc:=(h.ok _ mt).rc
   simp only [List.length_append,List.length_take,List.length_cons,List.length_nil,hsl,List.length_drop] at hlen
   unfold pendN
   show (KZ Rs[t].2 p).H.ops.length-(Rs[t].2.got+1)=_
   omega
 refine ⟨by rw [hs.len];exact h.len,hs.ok,fun r hr=> ?_,fun r hr=> ?_,fun i r hi=> ?_,fun r hr=> ?_,fun r hr=> ?_,?_,fun r hr=> ?_⟩
 ·obtain ⟨t,h1,h2,rfl,⟨_,e⟩ | ⟨hne,e,g⟩⟩:=key r hr
  ·rw [e];exact (h.dv _ (List.getElem_mem h1)).conf
  ·have mt:=List.getElem_mem h1
   have hut:=h.us t _ (List.getElem?_eq_getElem h1)
   rw [e]
   exact (h.dv _ mt).take g (by have:=(h.n _ mt).1;omega) (by rw [hpc];omega) ((h.dv _ ma).wb p hpm) (h.ok _ mt).rc
 ·obtain ⟨t,h1,h2,rfl,⟨_,e⟩ | ⟨hne,e,g⟩⟩:=key r hr
  ·rw [e];exact h.lm _ (List.getElem_mem h1)
  ·rw [e];exact h.lm _ (List.getElem_mem h1)
 ·have hil:i<Rs'.length:=by
   rcases Nat.lt_or_ge i Rs'.length with h | h
   ·exact h
   ·rw [List.getElem?_eq_none h] at hi;cases hi
  rw [List.getElem?_eq_getElem hil] at hi
  obtain rfl:=Option.some.inj hi
  have hil1:i<Rs.length:=by rw [←hs.len];exact hil
  have hu:=h.us i _ (List.getElem?_eq_getElem hil1)
  rw [hs.st i hil1 hil]
  by_cases e:i=a
  ·rw [if_pos e];exact hu
  ·rw [if_neg e,if_pos hil1];exact hu
 ·obtain ⟨t,h1,h2,rfl,⟨hta,e⟩ | ⟨hne,e,g⟩⟩:=key r hr
  ·subst hta
   rw [e]
   show Rs[t].2.H.ops.take (Rs[t].2.got+1)=_∧Rs[t].2.got+1=_
   rw [List.take_succ_eq_append_getElem hla,hpe,hga.1,List.length_append,←hga.2]
   exact ⟨rfl,rfl⟩
  ·have mt:=List.getElem_mem h1
   have hgt:=h.got _ mt
   have hrc:=(h.ok _ mt).rc
   rw [e]
   show (KZ Rs[t].2 p).H.ops.take (Rs[t].2.got+1)=_∧Rs[t].2.got+1=_
   rw [(take_ops (h.dv _ mt).di g).1,List.length_append,←hgt.2]
   have hlt:(Rs[t].2.H.ops.take Rs[t].2.got).length=Rs[t].2.got:=by rw [List.length_take];omega
   refine ⟨?_,rfl⟩
   rw [←List.append_assoc,List.take_left' (by rw [List.length_append,hlt];rfl),hgt.1]
 ·obtain ⟨t,h1,h2,rfl,⟨hta,e⟩ | ⟨hne,e,g⟩⟩:=key r hr
  ·rw [e]
   intro o ho
   refine h.pd _ (List.getElem_mem h1) o ?_
   have ho2:o∈Rs[t].2.H.ops.drop (Rs[t].2.got+1):=ho
   rw [←List.drop_drop] at ho2
   exact List.mem_of_mem_drop ho2
  ·have mt:=List.getElem_mem h1
   have hrc:=(h.ok _ mt).rc
   rw [e]
   intro o ho
   have ho2:o∈(KZ Rs[t].2 p).H.ops.drop (Rs[t].2.got+1):=ho
   have hl:=take_ops (h.dv _ mt).di g
   have hlt:(Rs[t].2.H.ops.take Rs[t].2.got).length=Rs[t].2.got:=by rw [List.length_take];omega
   rw [hl.1,←List.append_assoc,List.drop_left' (by rw [List.length_append,hlt];rfl)] at ho2
   obtain ⟨y,hy,hxy⟩:=hl.2.mem o ho2
   rw [hxy.c];exact h.pd _ mt y hy
 ·have h1:=sum_nth (fun r=>pendN r.2) (fun r=>pendN r.2) Rs Rs' a hs.len ha hpend (fun _=>by show 0<Rs[a].2.H.ops.length-Rs[a].2.got;omega)
  have h2:=h.cnt
  rw [List.length_append,List.length_singleton]
  omega
 ·obtain ⟨t,h1,h2,rfl,⟨_,e⟩ | ⟨hne,e,g⟩⟩:=key r hr
  ·rw [e];exact h.md _ (List.getElem_mem h1)
  ·rw [e];exact h.md _ (List.getElem_mem h1)
def SentR (Rs:Rm) (a:Nat) (Rs':Rm):Prop:=(Rs'=Rs∧ ∃h:a<Rs.length,pendN Rs[a].2=0)∨ ∃(h:a<Rs.length) (p:GOp),Rs[a].2.H.ops[Rs[a].2.got]? =some p∧SentS Rs a Rs.length p Rs'
structure TakeOk (D:DS) (p:GOp):Prop where
 cu:p.c≠D.u
 c:1≤p.c∧p.c≤D.cl
 n:p.n≤D.op
 ts:p.text.size≤1048576
 ce:putA D p.c+Jw p≤D.ce
 ta:TaD D p
theorem RmI.takes {k:Nat} {Rs:Rm} {G:List GOp} (h:RmI k Rs G) (hk:k≤600) {a:Nat} (ha:a<Rs.length) {p:GOp} (hp:Rs[a].2.H.ops[Rs[a].2.got]? =some p) {i:Nat} (hi:i<Rs.length) (hne:i≠a):TakeOk Rs[i].2 p:=by
 have ma:=List.getElem_mem ha
 have mi:=List.getElem_mem hi
 have g:=h.good hk ha hp hi hne
 have hua:=h.us a _ (List.getElem?_eq_getElem ha)
 have hui:=h.us i _ (List.getElem?_eq_getElem hi)
 have hpd:p∈Rs[a].2.H.ops.drop Rs[a].2.got:=List.mem_iff_getElem?.2 ⟨0,by rw [List.getElem?_drop,Nat.add_zero];exact hp⟩
 have hpc:=h.pd _ ma p hpd
 have hw:=(h.dv _ ma).wb p (List.mem_of_mem_drop hpd)
 have hlm:=h.lm _ mi
 have hb:=XW g.idr
 have hn:=(h.n _ mi).1
 have hpu:=(h.dv _ mi).put_ p.c
 have hl:=h.len
 have ht:=g.right.text
 exact ⟨by omega,by omega,by omega,by omega,by omega,g.tad (h.dv _ mi).di (by omega)⟩
theorem pend_head {D:DS} {p:GOp} (h:(D.H.ops.drop D.got)[0]? =some p):D.H.ops[D.got]? =some p∧ ∃hg:D.got<D.H.ents.length,D.H.ents[D.got].op=p:=by
 rw [List.getElem?_drop,Nat.add_zero] at h
 have hl:D.got<D.H.ops.length:=by
  rcases Nat.lt_or_ge D.got D.H.ops.length with h1 | h1
  ·exact h1
  ·rw [List.getElem?_eq_none h1] at h;cases h
 have hl2:D.got<D.H.ents.length:=by rw [←KQ];exact hl
 refine ⟨h,hl2,?_⟩
 rw [List.getElem?_eq_getElem hl] at h
 rw [←Option.some.inj h]
 simp [Hist.ops]
theorem _root_.Go.GW.Sp.preSub {P:Program} {k:FuncId} {args:List Value} {Lin:List Part} {pre pre':List Fact} {res:Value→List Part→List Fact→Prop} (h:Sp P k args Lin pre res) (hs: ∀A∈pre,A∈pre'):Sp P k args Lin pre' res:=
 ⟨h.enters,fun Z w Ps As hst=>(h.calls Z w Ps (pre'++As) (hst.subFacts fun A hA=>by
  rcases List.mem_append.1 hA with hA | hA
  ·exact List.mem_append_left _ (hs A hA)
  ·exact hA)).mono fun e w' ⟨v,he,Z',Lo,fs,h1,h2⟩=>⟨v,he,Z',Lo,fs,h1,h2.subFacts fun A hA=>by
   rcases List.mem_append.1 hA with hA | hA
   ·exact List.mem_append_left _ hA
   ·exact List.mem_append_right _ (List.mem_append_right _ hA)⟩⟩
theorem room_self (Rs:Rm) {i:Nat} (hi:i<Rs.length):Rs.set i (Rs[i].1,Rs[i].2)=Rs:=List.set_getElem_self hi
theorem pend_r (Rs:Rm) (a:Nat) (ha:a<Rs.length) (hok:DkOk Rs[a].1 Rs[a].2):Sp Tryz.prog 30 [.pointer (some ⟨Rs[a].1.d,0,none⟩)] [K6 Rs] [barF,RoomF Rs] (fun v Lo fs=> ∃(A':Option Addr) (c':Nat),v= .slice A' (Rs[a].2.H.ops.drop Rs[a].2.got).length c'∧Lo= [K6 Rs] ∧fs= [RdF opD A' c' (Rs[a].2.H.ops.drop Rs[a].2.got)]):=by
 refine ((E7 Rs[a].1 Rs[a].2 hok).room (pre:= [barF]) a ha (fun v M2 D2 gs=>M2=Rs[a].1∧D2=Rs[a].2∧ ∃(A':Option Addr) (c':Nat),v= .slice A' (Rs[a].2.H.ops.drop Rs[a].2.got).length c'∧gs= [RdF opD A' c' (Rs[a].2.H.ops.drop Rs[a].2.got)]) ?_).monoF ?_
 ·rintro v Lo fs ⟨A',c',rfl,rfl,rfl⟩
  refine ⟨_,_,[RdF opD A' c' (Rs[a].2.H.ops.drop Rs[a].2.got)],⟨rfl,rfl,A',c',rfl,rfl⟩,rfl,fun A hA=> ?_⟩
  rcases List.mem_append.1 hA with hA | hA
  ·exact List.mem_append_right _ (List.mem_append_right _ hA)
  ·exact List.mem_append_left _ hA
 ·rintro v Lo fs ⟨_,_,_,⟨rfl,rfl,A',c',rfl,rfl⟩,rfl,rfl⟩
  rw [room_self Rs ha]
  exact ⟨_,⟨A',c',rfl,rfl,rfl⟩,fun A hA=>List.mem_append_left _ (.tail _ hA)⟩
theorem conf_r (Rs:Rm) (a:Nat) (ha:a<Rs.length) (hok:DkOk Rs[a].1 Rs[a].2) (i0 i1:Int) (hg:Rs[a].2.got<Rs[a].2.H.ents.length) (hi0:Rs[a].2.H.ents[Rs[a].2.got].op.c=i0) (hi1:Rs[a].2.H.ents[Rs[a].2.got].op.n=i1):Sp Tryz.prog 77 [.pointer (some ⟨Rs[a].1.d,0,none⟩), .agg #[.int .i64 i0, .int .i64 i1]] [K6 Rs] [barF,RoomF Rs] (fun v Lo fs=>DkOk Rs[a].1 (confD Rs[a].2)∧v= .nilIface∧Lo= [K6 (Rs.set a (Rs[a].1,confD Rs[a].2))] ∧fs= [RoomF (Rs.set a (Rs[a].1,confD Rs[a].2))]):=by
 refine ((confirm_0 Rs[a].1 Rs[a].2 hok i0 i1 hg hi0 hi1).room (pre:= [barF]) a ha (fun v M2 D2 gs=>M2=Rs[a].1∧D2=confD Rs[a].2∧DkOk Rs[a].1 (confD Rs[a].2)∧v= .nilIface∧gs= []) ?_).mono ?_
 ·rintro v Lo fs ⟨hk,rfl,rfl,rfl⟩
  exact ⟨_,_,[],⟨rfl,rfl,hk,rfl,rfl⟩,rfl,fun A hA=>List.mem_append_right _ (List.mem_append_right _ (by rw [List.append_nil] at hA;exact hA))⟩
 ·rintro v Lo fs ⟨_,_,_,⟨rfl,rfl,hk,rfl,rfl⟩,rfl,rfl⟩
  exact ⟨hk,rfl,rfl,rfl⟩
theorem take_r (Rs:Rm) (a:Nat) (ha:a<Rs.length) (hok:DkOk Rs[a].1 Rs[a].2) (o:GOp) (Ao:Option Addr) (co:Nat) (hcu:o.c≠Rs[a].2.u) (hc:1≤o.c∧o.c≤Rs[a].2.cl) (hn:o.n≤Rs[a].2.op) (hts:o.text.size≤1048576) (hce:putA Rs[a].2 o.c+Jw o≤Rs[a].2.ce) (hta:TaD Rs[a].2 o):Sp Tryz.prog 78 [.pointer (some ⟨Rs[a].1.d,0,none⟩),opV o Ao co] [K6 Rs] [barF,RdF rgD Ao co o.rs,RoomF Rs] (fun v Lo fs=> ∃M2:DM,M2.d=Rs[a].1.d∧DkOk M2 (KZ Rs[a].2 o)∧v= .nilIface∧Lo= [K6 (Rs.set a (M2,KZ Rs[a].2 o))] ∧fs= [RoomF (Rs.set a (M2,KZ Rs[a].2 o))]):=by
 refine (((take_0 Rs[a].1 Rs[a].2 hok o Ao co hcu hc hn hts hce hta).preSub (pre':= [barF,RdF rgD Ao co o.rs] ++KV Rs[a].1 Rs[a].2) (fun A hA=> ?_)).room (pre:= [barF,RdF rgD Ao co o.rs]) a ha (fun v M2 D2 gs=>M2.d=Rs[a].1.d∧D2=KZ Rs[a].2 o∧DkOk M2 (KZ Rs[a].2 o)∧v= .nilIface∧gs= []) ?_).mono ?_
 ·simp only [List.mem_append,List.mem_cons,List.not_mem_nil,or_false] at hA ⊢
  rcases hA with (rfl | rfl | rfl | rfl) | rfl<;>simp
 ·rintro v Lo fs ⟨M2,hd,hk,rfl,rfl,rfl⟩
  exact ⟨M2,_,[],⟨hd,rfl,hk,rfl,rfl⟩,rfl,fun A hA=>List.mem_append_left _ (by rw [List.append_nil] at hA;exact hA)⟩
 ·rintro v Lo fs ⟨M2,_,_,⟨hd,rfl,hk,rfl,rfl⟩,rfl,rfl⟩
  exact ⟨M2,hd,hk,rfl,rfl,rfl⟩
theorem acted_r (Rs:Rm) (a:Nat) (ha:a<Rs.length) (hok:DkOk Rs[a].1 Rs[a].2) (hv:DV Rs[a].2) (hb:Bd Rs[a].2) (x:GAct) (k n:Nat) (hn:1≤n∧n≤8):Sp Tryz.prog 41 [.pointer (some ⟨Rs[a].1.d,0,none⟩),actV x, .int .i64 k, .int .i64 n] [K6 Rs] [barF,wordsF,RoomF Rs] (fun v Lo fs=> ∃M2 D2,Acted Rs[a].2 D2∧DV D2∧M2.d=Rs[a].1.d∧DkOk M2 D2∧v= .bool true∧Lo= [K6 (Rs.set a (M2,D2))] ∧fs= [RoomF (Rs.set a (M2,D2))]):=by
 refine ((Ja0 Rs[a].1 Rs[a].2 hok hv hb x k n hn).room (pre:= [barF,wordsF]) a ha (fun v M2 D2 gs=>Acted Rs[a].2 D2∧DV D2∧M2.d=Rs[a].1.d∧DkOk M2 D2∧v= .bool true∧gs= []) ?_).mono ?_
 ·rintro v Lo fs ⟨rfl,M2,D2,h1,h2,h3,h4,rfl,rfl⟩
  exact ⟨M2,D2,[],⟨h1,h2,h3,h4,rfl,rfl⟩,rfl,fun A hA=>List.mem_append_left _ (by rw [List.append_nil] at hA;exact hA)⟩
 ·rintro v Lo fs ⟨M2,D2,_,⟨h1,h2,h3,h4,rfl,rfl⟩,rfl,rfl⟩
  exact ⟨M2,D2,h1,h2,h3,h4,rfl,rfl,rfl⟩
set_option maxRecDepth 10000 in
theorem Jbh (k:Nat) (Rs:Rm) (G:List GOp) (hR:RmI k Rs G) (hk:k≤600) (A1:Option Addr) (c1:Nat) (a:Nat) (ha:a<Rs.length):Sp Tryz.prog 40 [.slice A1 Rs.length c1, .int .i64 a] [K6 Rs] [barF,RoomF Rs,adsF A1 c1 Rs] (fun v Lo fs=> ∃Rs2 G2,RmI k Rs2 G2∧SentR Rs a Rs2∧(Rs2.map fun r=>r.1.d)=(Rs.map fun r=>r.1.d)∧v= .bool true∧Lo= [K6 Rs2] ∧fs= [RoomF Rs2]):=by
 have hlen:=hR.len
 have hoka:=hR.ok _ (List.getElem_mem ha)
 refine Sp.of (n:=47) ⟨_,Tryz.func40,rfl,rfl,rfl,rfl⟩ (Nat.le_of_ble_eq_true rfl) fun Ps As=>Jc (Ja (Lq (Jd rfl) (Je (Jf (Jc (Kk (k:=a) Mm2 (by rw [List.getElem?_map,List.getElem?_eq_getElem ha];rfl) (pt_open _) fun b1 q1 y1 e1=> ?_))))))
 cases e1
 refine Ja (Lq (Jb rfl) (Lq (Jb rfl) (Lq (Kc Un25 EO rfl rfl (by omega) (by omega)) (Lq (Kj (j:=0) Un29 rfl rfl Mm0 rfl rfl) (Jg rfl (JU (pend_r Rs a ha hoka) (.cons rfl (.nil)) (by decide) (.z) (Jl Mm1 (Jl Mm2 Jx)) fun u1_4 Lo fs hres=> ?_))))))
 obtain ⟨A9,c9,rfl,rfl,rfl⟩:=hres
 refine Lq (Jd rfl) (Je (Jf (Jc (Jc (Ja (Lq (Jb rfl) (Lq (J6 Un78 rfl) (Lq (Kg rfl rfl) (Je (Jf (Jz rfl (fun h14=> ?_) (fun h14=> ?_))))))))))))
 ·refine Jc (Ja (Lq (Jd rfl) (Je (Jf (Jo (Js ?_))))))
  refine ⟨_,[_],[_],fun Z w hs=> .tmp rfl (.nil),?_,fun Z w hs=>hs.out (Sk (Sr)) (Jl Mm3 Tt2)⟩
  refine ⟨Rs,G,hR, .inl ⟨rfl,ha,?_⟩,rfl,rfl,rfl,rfl⟩
  have h:=h14
  simp at h
  unfold pendN;omega
 ·have hpl:0<(Rs[a].2.H.ops.drop Rs[a].2.got).length:=by have h:=h14;simp at h;rw [List.length_drop];omega
  obtain ⟨p,hp0⟩: ∃p,(Rs[a].2.H.ops.drop Rs[a].2.got)[0]? =some p:=⟨_,List.getElem?_eq_getElem hpl⟩
  obtain ⟨hp,hge,hpe⟩:=pend_head hp0
  have hprs:p.rs.length≤4398046511104:=by have h:=(hoka.hr.fit _ (List.getElem_mem hge)).rs;rw [hpe] at h;exact h
  refine Jp (Jf (Jc (Jc (Kk (k:=0) Mm0 hp0 (op_open _) fun b4 q4 y4 e4=> ?_))))
  cases e4
  refine JI _ _ [] (.c 0 0 (.c 1 0 (.c 2 0 (.c 3 0 (.c 4 0 (.c 5 0 (.c 6 0 (.c 7 0 (.c 8 0 (.c 9 2 (.c 10 0 .nil))))))))))) mixed (fun _ _ _ _ h=>h) (Sd (Sr)) (fun _ h=>h) (by kernel_rfl) (by decide) fun ws Z0=>Qe rfl (Jb rfl) (Qe rfl (Jb rfl) (Qe rfl (Kc Un25 EO rfl rfl (by omega) (by omega)) (Qe rfl (Kj (j:=0) Un29 rfl rfl Mm3 rfl rfl) (Qe rfl (Jb rfl) (Qe rfl (Kc Un78 JB rfl rfl (by omega) (by omega)) (Qe rfl (Jh (o':=_+0) Un52 rfl KY rfl rfl) (Qe rfl (Jh (o':=_+0) Un49 rfl JY rfl rfl) (Qe rfl (Kr (k:=0) (vs:= [_,_]) Un46 rfl JY rfl Mm0 rfl rfl rfl) ?_))))))))
  refine Jy rfl rfl (JU (conf_r Rs a ha hoka p.c p.n hge (by rw [hpe]) (by rw [hpe])) (.cons rfl (.cons rfl (.nil))) (by decide) (.z) (Jl Mm5 (Jl Mm6 Jx)) fun u4_9 Lo fs hres=> ?_)
  obtain ⟨hck,rfl,rfl,rfl⟩:=hres
  refine ⟨⟨(Sd (Sr)),Mm1⟩,?_⟩
  refine Qe rfl (K4 Un54 rfl) (JL (JK (Jf (Jv rfl rfl (Jp (Jf (Jc (Jc (Ja (Lq (Jd rfl) (Je (Jf (JN ?_)))))))))))))
  refine Km (α:=Nat×Rm) (fun (i,Rs2)=>Rs.length-i)
   (fun (i,Rs2)=> [(0, .slice (some ⟨b1,q1,none⟩) Rs.length c1),(1, .int .i64 a),(5, .slice (some ⟨b4,q4,none⟩) (Rs[a].2.H.ops.drop Rs[a].2.got).length c9),(6, .int .i64 i)])
   (fun (i,Rs2)=>(K6 Rs2::Ps))
   (fun (i,Rs2)=>(RoomF Rs2::RdF opD (some ⟨b4,q4,none⟩) c9 (Rs[a].2.H.ops.drop Rs[a].2.got)::barF::RoomF Rs::adsF (some ⟨b1,q1,none⟩) c1 Rs::As))
   (fun (i,Rs2)=>i≤Rs.length∧SentS Rs a i p Rs2)
   (0,Rs.set a (Rs[a].1,confD Rs[a].2)) ?_ (.cons rfl (.cons rfl (.cons rfl (.cons rfl (.nil _))))) (Sk (Sr)) (Jl Mm0 (Jl Mm4 Tt6)) ?_
  ·exact ⟨Nat.zero_le _,SentS.zero ha hR.ok p hck⟩
  ·rintro ⟨i,Rs2⟩ hI
   have hile:i≤Rs.length:=hI.1
   refine Jc (Jc (Ja (Lq (Jb rfl) (Lq (Jb rfl) (Lq (J6 Un25 rfl) (Lq (Ko rfl rfl) (Je (Jf (Jz rfl (fun h29=> ?_) (fun h29=> ?_))))))))))
   ·refine Jp (Jf (Jc (JN (Jc ?_))))
    have hi:i<Rs.length:=by have h:=h29;simp only [decide_eq_true_eq] at h;omega
    have hi2:i<Rs2.length:=by rw [hI.2.len];exact hi
    have hS:=hI.2
    refine Kk (k:=i) Mm4 (by rw [←hS.d,List.getElem?_map,List.getElem?_eq_getElem hi2];rfl) (pt_open _) fun b9 q9 y9 e9=> ?_
    cases e9
    refine Kk (k:=0) Mm2 hp0 (op_open _) fun b8 q8 y8 e8=> ?_
    cases e8
    refine JI _ _ [] (.c 0 0 (.c 1 0 (.c 2 0 (.c 3 0 (.c 4 0 (.c 5 0 (.c 6 0 (.c 7 0 (.c 8 0 (.c 9 0 (.c 10 0 (.c 11 2 (.c 12 2 (.c 13 0 (.c 14 0 .nil))))))))))))))) mixed (fun _ _ _ _ h=>h) (Sd (Sr)) (fun _ h=>h) (by kernel_rfl) (by decide) fun ws Z0=>Qe rfl (Jb rfl) (Qe rfl (Jb rfl) (Qe rfl (Ky rfl rfl) (Qe rfl (Jb rfl) (ZV (t:=35) rfl (fun g35=> ?_) (fun g35=> ?_)))))
    ·refine Kz rfl rfl rfl rfl g35 (Jb rfl) (by decide) (Kz rfl rfl rfl rfl g35 (Jb rfl) (by decide) (Kz rfl rfl rfl rfl g35 (Kc Un25 EO rfl rfl (by omega) (by omega)) (by decide) (Kz rfl rfl rfl rfl g35 (Kj (j:=0) Un29 rfl rfl Mm2 rfl rfl) (by decide) (Kz rfl rfl rfl rfl g35 (Jb rfl) (by decide) (Kz rfl rfl rfl rfl g35 (Kc Un78 JB rfl rfl (by omega) (by omega)) (by decide) (Kz rfl rfl rfl rfl g35 (Kr (k:=0) (vs:= [_,_,_,_,_,_,_,_,_]) Un52 rfl JB rfl Mm0 rfl rfl rfl) (by decide) (Vx rfl rfl rfl rfl rfl g35 (Jm (ZI p y8.1 y8.2 hprs) (.cons rfl (.nil)) (by decide) (Jl Mm2 Jx) fun u9_11 Lo fs hres=> ?_))))))))
     obtain ⟨A8,c8,rfl,rfl,rfl⟩:=hres
     refine ⟨⟨(Sd (Sr)),Mm1⟩,?_⟩
     have hne:i≠a:=by have h:=g35;simp at h;omega
     have hold:=hS.old hne hi hi2
     have htk:=hR.takes hk ha hp hi hne
     refine Vx rfl rfl rfl rfl rfl g35 (JU (take_r Rs2 i hi2 (hS.ok _ (List.getElem_mem hi2)) p A8 c8 (by rw [hold];exact htk.cu) (by rw [hold];exact htk.c) (by rw [hold];exact htk.n) htk.ts (by rw [hold];exact htk.ce) (by rw [hold];exact htk.ta)) (.cons rfl (.cons rfl (.nil))) (by decide) (.z) (Jl Mm7 (Jl Mm0 (Jl Mm5 Jx))) fun u9_12 Lo fs hres=> ?_)
     obtain ⟨M2,hd2,hk2,rfl,rfl,rfl⟩:=hres
     refine ⟨⟨(Sd (Sr)),Mm2⟩,?_⟩
     refine Kz rfl rfl rfl rfl g35 (K4 Un54 rfl) (by decide) (Qe rfl (JP rfl g35 rfl) (JL (JK (Jf (Jv rfl rfl (Jp (Ka (Jf (Ja (Lq (Jb rfl) (Lq (JV rfl rfl (wr64 (by omega)) (c:=((i+1:Nat):Int))) (Lq (Jd rfl) (Je (Ks ?_))))))))))))))
     refine ⟨(i+1,Rs2.set i (M2,KZ Rs2[i].2 p)),?_,(.cons rfl (.cons rfl (.cons rfl (.cons rfl (.nil _))))),(Sk (Sr)),(Jl Mm0 Tt7)⟩
     exact ⟨by show Rs.length-(i+1)<Rs.length-i;omega,by show i+1≤Rs.length;omega,hS.take hne hi hi2 hd2 hk2⟩
    ·refine KU rfl rfl rfl rfl g35 (by decide) (KU rfl rfl rfl rfl g35 (by decide) (KU rfl rfl rfl rfl g35 (by decide) (KU rfl rfl rfl rfl g35 (by decide) (KU rfl rfl rfl rfl g35 (by decide) (KU rfl rfl rfl rfl g35 (by decide) (KU rfl rfl rfl rfl g35 (by decide) (Hy rfl rfl rfl rfl g35 (by decide) (Hy rfl rfl rfl rfl g35 (by decide) (KU rfl rfl rfl rfl g35 (by decide) ?_)))))))))
     refine Qe rfl (JH rfl g35 rfl) (JL (JK (Jf (Jv rfl rfl (Jp (Ka (Jf (Ja (Lq (Jb rfl) (Lq (JV rfl rfl (wr64 (by omega)) (c:=((i+1:Nat):Int))) (Lq (Jd rfl) (Je (Ks ?_)))))))))))))
     refine ⟨(i+1,Rs2),?_,(.cons rfl (.cons rfl (.cons rfl (.cons rfl (.nil _))))),(Sk (Sr)),Tt4⟩
     have hia:i=a:=by have h:=g35;simp at h;omega
     subst hia
     exact ⟨by show Rs.length-(i+1)<Rs.length-i;omega,by show i+1≤Rs.length;omega,hS.skip⟩
   ·refine Kn (JO (JO (Ke (Jf (Jc (Ja (Lq (Jd rfl) (Je (Jf (Jo ?_))))))))))
    refine ⟨_,[_],[_],fun Z w hs=> .tmp rfl (.nil),?_,fun Z w hs=>hs.out (Sk (Sr)) (Jl Mm0 Tt2)⟩
    have hie:i=Rs.length:=by have h:=h29;simp only [decide_eq_false_iff_not] at h;omega
    have hS:=hI.2
    rw [hie] at hS
    exact ⟨Rs2,G++ [p],hS.done hR hk ha hp, .inr ⟨ha,p,hp,hS⟩,hS.d,rfl,rfl,rfl⟩
set_option maxRecDepth 10000 in
theorem Jam (Rs:Rm) (G:List GOp) (hR:RmI 0 Rs G) (A1:Option Addr) (c1:Nat) (acts:List GAct) (B1:Option Addr) (cb:Nat):Sp Tryz.prog 9 [.slice A1 Rs.length c1, .slice B1 acts.length cb] [K6 Rs] [barF,wordsF,RoomF Rs,adsF A1 c1 Rs,RdF actD B1 cb acts] (fun v Lo fs=> ∃Rs2 G2,RmI 400 Rs2 G2∧(Rs2.map fun r=>r.1.d)=(Rs.map fun r=>r.1.d)∧v= .bool true∧Lo= [K6 Rs2] ∧fs= [RoomF Rs2]):=by
 have hlen:=hR.len
 refine Sp.of (n:=48) ⟨_,Tryz.func9,rfl,rfl,rfl,rfl⟩ (Nat.le_of_ble_eq_true rfl) fun Ps As=>Jc (Ja (Lq (Jd rfl) (Je (Jf (Jc (Jc (Ja (Lq (Jd rfl) (Je (Jf (JN ?_)))))))))))
 refine Km (α:=Nat×Rm×List GOp) (fun (i,Rs2,G2)=>acts.length-i)
  (fun (i,Rs2,G2)=> [(0, .slice A1 Rs.length c1),(1, .slice B1 acts.length cb),(5, .int .i64 i)])
  (fun (i,Rs2,G2)=>(K6 Rs2::Ps))
  (fun (i,Rs2,G2)=>(RoomF Rs2::barF::wordsF::RoomF Rs::adsF A1 c1 Rs::RdF actD B1 cb acts::As))
  (fun (i,Rs2,G2)=>i≤400∧i≤acts.length∧RmI i Rs2 G2∧(Rs2.map fun r=>r.1.d)=(Rs.map fun r=>r.1.d))
  (0,Rs,G) ?_ (.cons rfl (.cons rfl (.cons rfl (.nil _)))) (Sk (Sr)) (Jl Mm2 (fun _ h=>h)) ?_
 ·exact ⟨Nat.zero_le _,Nat.zero_le _,hR,rfl⟩
 ·rintro ⟨i,Rs2,G2⟩ ⟨hi0,hi1,hR2,hm2⟩
  have hi0:i≤400:=hi0
  have hi1:i≤acts.length:=hi1
  have hR2:RmI i Rs2 G2:=hR2
  have hm2:(Rs2.map fun r=>r.1.d)=(Rs.map fun r=>r.1.d):=hm2
  have hlen2:Rs2.length=Rs.length:=by have h:=congrArg List.length hm2;simpa using h
  have hads:adsF A1 c1 Rs2=adsF A1 c1 Rs:=by unfold adsF;rw [hm2]
  refine Jc (Jc (Ja (Lq (Jb rfl) (Lq (Jb rfl) (Lq (J6 Un22 rfl) (Lq (Ko rfl rfl) (Lq (Jb rfl) (J4 (t:=14) rfl (fun g14=> ?_) (fun g14=> ?_)))))))))
  ·refine Lg rfl rfl rfl g14 (Jb rfl) (Lg rfl rfl rfl g14 (Ko rfl rfl) (Lq (JP rfl g14 rfl) (Je (Jf (Jz rfl (fun h17=> ?_) (fun h17=> ?_))))))
   ·refine Jp (Jf (Jc (JN (Jc ?_))))
    have hia:i<acts.length:=by have h:=g14;simp only [decide_eq_true_eq] at h;omega
    have hi4:i<400:=by have h:=h17;simp only [decide_eq_true_eq] at h;omega
    refine Kk (k:=i) Mm5 (List.getElem?_eq_getElem hia) (act_open _) fun b4 q4 y4 e4=> ?_
    cases e4
    refine Ja (Lq (Jb rfl) (Lq (Jb rfl) (Lq (Kc Un22 Zi rfl rfl (by omega) (by omega)) (Lq (Kr (k:=0) (vs:= [_,_,_,_,_,_]) Un93 rfl Zi rfl Mm0 rfl rfl rfl) (Jg rfl (Ju (cs:= [_,_,_,_,_,_]) Zi rfl (by decide) fun b6=>Jg rfl (Jq (cs':= [_,_,_,_,_,_]) (vs:= [_,_,_,_,_,_]) Zi rfl rfl rfl rfl rfl (Nat.le_of_ble_eq_true rfl) (.z) (Je (Jf (Jc (Ja (Lq (Jh (o':=1) Un93 rfl ti3 rfl rfl) (Lq (Jj Un3 rfl rfl Jn rfl) ?_)))))))))))))
    refine Jg rfl (Jm (K8 acts[i].kind 9 (by omega)) (.cons rfl (.cons rfl (.nil))) (by decide) Jx fun u5_2 Lo fs hres=> ?_)
    obtain ⟨kk,hkk,_,rfl,rfl,rfl⟩:=hres
    refine Lq (Jd rfl) (Je (Jf (Jc (Ja (Lq (Jh (o':=0) Un93 rfl ti3 rfl rfl) (Lq (Jj Un3 rfl rfl Jn rfl) (Lq (Jb rfl) (Lq (J6 Un25 rfl) (Jg rfl (Jm (K8 acts[i].who Rs.length (by omega)) (.cons rfl (.cons rfl (.nil))) (by decide) Jx fun u6_4 Lo fs hres=> ?_))))))))))
    obtain ⟨w,hw,_,rfl,rfl,rfl⟩:=hres
    refine Lq (Jd rfl) (Je (Jf (Jc (Ja (Lq (Jd rfl) (Je (Jf (Jc (Jc (Ja (Lq (Jb rfl) (Lq (Yg rfl rfl) (Je (Jf (Jz rfl (fun h33=> ?_) (fun h33=> ?_))))))))))))))))
    ·refine Ja (Lq (Jb rfl) (Lq (Jb rfl) ?_))
     have hs:=Jbh i Rs2 G2 hR2 (by omega) A1 c1 w (by omega)
     rw [hlen2,hads] at hs
     refine Jg rfl (JU (hs) (.cons rfl (.cons rfl (.nil))) (by decide) (.s (.z)) (Jl Mm2 (Jl Mm1 (Jl Mm5 Jx))) fun u9_2 Lo fs hres=> ?_)
     obtain ⟨Rs3,G3,hR3,hSR,hm3,rfl,rfl,rfl⟩:=hres
     refine Lq (Jd rfl) (Je (Jf (Jc (Ja (Lq (Jb rfl) (Lq (KK rfl) (Je (Jf (Jv rfl rfl (Jp (Ka (Jf (Ja (Lq (Jb rfl) (Lq (JV rfl rfl (wr64 (by omega)) (c:=((i+1:Nat):Int))) (Lq (Jd rfl) (Je (Ks ?_))))))))))))))))))
     refine ⟨(i+1,Rs3,G3),?_,(.cons rfl (.cons rfl (.cons rfl (.nil _)))),(Sk (Sd (Sr))),(Jl Mm0 Tt3)⟩
     exact ⟨by show acts.length-(i+1)<acts.length-i;omega,by show i+1≤400;omega,by show i+1≤acts.length;omega,hR3.mono (by omega),hm3.trans hm2⟩
    ·have hw2:w<Rs2.length:=by omega
     refine Kk (k:=w) Mm5 (by rw [←hm2,List.getElem?_map,List.getElem?_eq_getElem hw2];rfl) (pt_open _) fun b10 q10 y10 e10=> ?_
     cases e10
     refine JI _ _ [] (.c 0 0 (.c 1 0 (.c 2 0 (.c 3 0 (.c 4 0 (.c 5 0 (.c 6 0 (.c 7 0 (.c 8 2 (.c 9 0 .nil)))))))))) mixed (fun _ _ _ _ h=>h) (Sk (Sd (Sr))) (fun _ h=>h) (by kernel_rfl) (by decide) fun ws Z0=>Qe rfl (Jb rfl) (Qe rfl (Jb rfl) (Qe rfl (Kc Un25 EO rfl rfl (by omega) (by omega)) (Qe rfl (Kj (j:=0) Un29 rfl rfl Mm0 rfl rfl) (Qe rfl (Jt (vs:= [_,_,_,_,_,_]) Un93 rfl Zi rfl Jn rfl rfl) (Qe rfl (Jb rfl) (Qe rfl (Jb rfl) (Qe rfl (J6 Un25 rfl) ?_)))))))
     refine Jy rfl rfl (JU (acted_r Rs2 w hw2 (hR2.ok _ (List.getElem_mem hw2)) (hR2.dv _ (List.getElem_mem hw2)) (hR2.bd (by omega) _ (List.getElem_mem hw2)) acts[i] kk Rs.length (by omega)) (.cons rfl (.cons rfl (.cons rfl (.cons rfl (.nil))))) (by decide) (.s (.z)) (Jl Mm4 (Jl Mm5 (Jl Mm3 Jx))) fun u10_8 Lo fs hres=> ?_)
     obtain ⟨M3,D3,hac,hdv,hd3,hk3,rfl,rfl,rfl⟩:=hres
     refine ⟨⟨(Sd (Sk (Sr))),Mm1⟩,?_⟩
     refine Qe rfl (Jd rfl) (JL (JK (Jf (Jc (Ja (Lq (Jb rfl) (Lq (KK rfl) (Je (Jf (Jv rfl rfl (Jp (Ka (Jf (Ja (Lq (Jb rfl) (Lq (JV rfl rfl (wr64 (by omega)) (c:=((i+1:Nat):Int))) (Lq (Jd rfl) (Je (Ks ?_)))))))))))))))))))
     refine ⟨(i+1,Rs2.set w (M3,D3),G2),?_,(.cons rfl (.cons rfl (.cons rfl (.nil _)))),(Sk (Sd (Sr))),(Jl Mm0 Tt5)⟩
     exact ⟨by show acts.length-(i+1)<acts.length-i;omega,by show i+1≤400;omega,by show i+1≤acts.length;omega,hR2.act hw2 hac hdv hk3,(map_set_d hw2 hd3).trans hm2⟩
   ·refine Kn (JO (JO (Ke (Jf (Jc (Ja (Lq (Jd rfl) (Je (Jf (Jo ?_))))))))))
    refine ⟨_,[_],[_],fun Z w hs=> .tmp rfl (.nil),?_,fun Z w hs=>hs.out (Sk (Sr)) (fun _ h=>h)⟩
    exact ⟨Rs2,G2,hR2.mono hi0,hm2,rfl,rfl,rfl⟩
  ·refine Ln rfl rfl rfl g14 (Ln rfl rfl rfl g14 (Lq (JH rfl g14 rfl) (Je (Jf (Jv rfl rfl (Kn (JO (JO (Ke (Jf (Jc (Ja (Lq (Jd rfl) (Je (Jf (Jo ?_))))))))))))))))
   refine ⟨_,[_],[_],fun Z w hs=> .tmp rfl (.nil),?_,fun Z w hs=>hs.out (Sk (Sr)) (fun _ h=>h)⟩
   exact ⟨Rs2,G2,hR2.mono hi0,hm2,rfl,rfl,rfl⟩
structure RmO (Rs:Rm):Prop where
 ok: ∀r∈Rs,DkOk r.1 r.2
 st: ∀(i:Nat) r,Rs[i]? =some r→r.2=zeroD ((i:Int)+1) 4 4096 1024
theorem RmO.nil:RmO [] :=⟨nofun,fun _ _ h=>by simp at h⟩
theorem RmO.add {Rs:Rm} (h:RmO Rs) {M:DM} (hk:DkOk M (zeroD ((Rs.length:Int)+1) 4 4096 1024)):RmO (Rs++ [(M,zeroD ((Rs.length:Int)+1) 4 4096 1024)]):=by
 refine ⟨fun r hr=> ?_,fun i r hi=> ?_⟩
 ·rcases List.mem_append.1 hr with hr | hr
  ·exact h.ok r hr
  ·rw [List.mem_singleton.1 hr];exact hk
 ·rcases Nat.lt_trichotomy i Rs.length with hl | rfl | hl
  ·rw [List.getElem?_append_left hl] at hi;exact h.st i r hi
  ·rw [List.getElem?_append_right (Nat.le_refl _),Nat.sub_self] at hi
   rw [←Option.some.inj hi]
  ·rw [List.getElem?_eq_none (by simp;omega)] at hi;cases hi
theorem DV.zero {u:Int} (hu:1≤u∧u≤8) (cl ce op:Int):DV (zeroD u cl ce op):=
 ⟨hu,nofun,nofun,fun x hx=>(by rw [List.eq_of_mem_replicate hx];exact ⟨Int.le_refl _,Int.natCast_nonneg _⟩),nofun,DI.zero,rfl⟩
theorem RmO.rm {Rs:Rm} (h:RmO Rs) (hl:2≤Rs.length∧Rs.length≤4):RmI 0 Rs [] :=by
 have key: ∀r∈Rs,∃i:Nat,i<4∧r.2=zeroD ((i:Int)+1) 4 4096 1024:=fun r hr=>by
  obtain ⟨i,hi,rfl⟩:=List.mem_iff_getElem.1 hr
  exact ⟨i,by omega,h.st i _ (List.getElem?_eq_getElem hi)⟩
 refine ⟨hl,h.ok,fun r hr=> ?_,fun r hr=> ?_,fun i r hi=> ?_,fun r hr=> ?_,fun r hr=> ?_,?_,fun r hr=> ?_⟩
 ·obtain ⟨i,hi,e⟩:=key r hr;rw [e];exact DV.zero (by omega) _ _ _
 ·obtain ⟨i,hi,e⟩:=key r hr;rw [e];exact ⟨rfl,rfl,rfl⟩
 ·rw [h.st i r hi];rfl
 ·obtain ⟨i,hi,e⟩:=key r hr;rw [e];exact ⟨rfl,rfl⟩
 ·obtain ⟨i,hi,e⟩:=key r hr;rw [e];intro o ho;cases ho
 ·have e:(Rs.map fun r=>pendN r.2)=List.replicate Rs.length 0:=by
   apply List.eq_replicate_iff.2
   refine ⟨by simp,fun x hx=> ?_⟩
   obtain ⟨r,hr,rfl⟩:=List.mem_map.1 hx
   obtain ⟨i,hi,e⟩:=key r hr
   rw [e];rfl
  rw [e];simp
 ·obtain ⟨i,hi,e⟩:=key r hr;rw [e];exact Nat.le_refl 0
theorem _root_.Go.GW.Sp.roomAdd {P:Program} {k:FuncId} {args:List Value} {res:Value→List Part→List Fact→Prop} (Rs:Rm) (h:Sp P k args [] [] res) (post:Value→DM→DS→Prop)
  (hr: ∀v Lo fs,res v Lo fs→ ∃M2 D2,post v M2 D2∧Lo=KA M2 D2∧fs=KV M2 D2):
  Sp P k args [K6 Rs] [RoomF Rs] (fun v Lo fs=> ∃M2 D2,post v M2 D2∧Lo= [K6 (Rs++ [(M2,D2)])] ∧fs= [RoomF (Rs++ [(M2,D2)])]):=by
 refine ⟨h.enters,fun Z w Ps As hs=> ?_⟩
 have h1:St Z w ([] ++(K6 Rs::Ps)) ([] ++(RoomF Rs::As)):=hs
 refine (h.calls Z w _ _ h1).mono ?_
 rintro e w' ⟨v,rfl,Z',Lo,fs,g1,g2⟩
 obtain ⟨M2,D2,p1,rfl,rfl⟩:=hr v Lo fs g1
 refine ⟨v,rfl,Z',_,_,⟨M2,D2,p1,rfl,rfl⟩,?_⟩
 have hp:((KA M2 D2)++(K6 Rs::Ps)).flatten.Perm ([K6 (Rs++ [(M2,D2)])] ++Ps).flatten:=by
  have e:K6 (Rs++ [(M2,D2)])=K6 Rs++(KA M2 D2).flatten:=by
   unfold K6 Yr
   rw [List.flatMap_append,List.flatten_append,List.flatMap_cons,List.flatMap_nil,List.append_nil]
  rw [e]
  generalize KA M2 D2=Q
  simp only [List.flatten_append,List.flatten_cons,List.cons_append,List.nil_append,List.append_assoc]
  exact List.perm_append_comm_assoc ..
 refine ⟨g2.zlt,fun q hq=>g2.own q (hp.symm.subset hq),(hp.map Prod.fst).nodup_iff.1 g2.nodup,fun A hA=> ?_⟩
 have hF:(RoomF Rs).holds Z' w':=g2.facts _ (by simp)
 rcases List.mem_append.1 hA with hA | hA
 ·rw [List.mem_singleton.1 hA]
  intro B hB
  have e:Vm (Rs++ [(M2,D2)])=Vm Rs++KV M2 D2:=by unfold Vm;rw [List.flatMap_append,List.flatMap_cons,List.flatMap_nil,List.append_nil]
  rw [e] at hB
  rcases List.mem_append.1 hB with hB | hB
  ·exact hF B hB
  ·exact g2.facts B (by simp only [List.mem_append];exact .inl hB)
 ·exact g2.facts A (List.mem_append_right _ (by simpa using hA))
def ptRow (Rs:Rm):List Value:=Rs.map fun r=> .pointer (some ⟨r.1.d,0,none⟩)
theorem HU (Rs:Rm) (x:DM×DS):ptRow (Rs++ [x])=ptRow Rs++ [.pointer (some ⟨x.1.d,0,none⟩)] :=by unfold ptRow;rw [List.map_append];rfl
theorem ptRow_flat: ∀Rs:Rm,(((Rs.map fun (r:DM×DS)=>r.1.d).map fun x=> [(.pointer (some ⟨x,0,none⟩):Value)])).flatten=ptRow Rs
 | [] =>rfl
 | x::Rs=>by
  have h:=ptRow_flat Rs
  rw [List.map_cons,List.map_cons,List.flatten_cons,h];rfl
theorem pt_reps (Z:Nat→Prop) (w:World): ∀xs:List Nat,Reps (ptD.rep Z w) xs (xs.map fun x=> [.pointer (some ⟨x,0,none⟩)])
 | [] => .nil
 | x::xs=> .cons rfl (pt_reps Z w xs)
theorem dnew_r (Rs:Rm) (i:Nat) (hi:i=Rs.length) (h4:Rs.length<4):Sp Tryz.prog 36 [.int .i64 ((i+1:Nat):Int), .agg #[.int .i64 4, .int .i64 4096, .int .i64 1024]] [K6 Rs] [RoomF Rs] (fun v Lo fs=> ∃M2 D2,(v= .tuple #[.pointer (some ⟨M2.d,0,none⟩), .nilIface] ∧DkOk M2 D2∧D2=zeroD ((Rs.length:Int)+1) 4 4096 1024)∧Lo= [K6 (Rs++ [(M2,D2)])] ∧fs= [RoomF (Rs++ [(M2,D2)])]):=by
 subst hi
 have h:=ZF ((Rs.length:Int)+1) 4 4096 1024 (by omega) (by decide) (by decide) (by decide)
 refine Sp.roomAdd Rs h (fun v M2 D2=>v= .tuple #[.pointer (some ⟨M2.d,0,none⟩), .nilIface] ∧DkOk M2 D2∧D2=zeroD ((Rs.length:Int)+1) 4 4096 1024) ?_
 rintro v Lo fs ⟨M,rfl,hk,rfl,rfl⟩
 exact ⟨M,_,⟨rfl,hk,rfl⟩,rfl,rfl⟩
set_option maxRecDepth 10000 in
theorem Jbl (n:Int):Sp Tryz.prog 7 [.int .i64 n] [] [] (fun v Lo fs=> ∃(Rs:Rm) (A1:Option Addr) (c1:Nat),RmI 0 Rs [] ∧v= .slice A1 Rs.length c1∧Lo= [K6 Rs] ∧fs= [adsF A1 c1 Rs,RoomF Rs]):=by
 have hn0:=Int.emod_nonneg n (show (3:Int)≠0 by decide)
 have hn1:=Int.emod_lt_of_pos n (show (0:Int)<3 by decide)
 refine Sp.of (n:=32) ⟨_,Tryz.func7,rfl,rfl,rfl,rfl⟩ (Nat.le_of_ble_eq_true rfl) fun Ps As=>Jc (Ja (Lq (Jd rfl) (Je (Jf (Jc (Ja (Lq (Jd rfl) (Je (Jf (Jc (Jc (Ja (Lq (Jd rfl) (Je (Jf (JN (J9 (A:=RoomF []) (fun Z w _ A hA=>by cases hA) (KD ?_))))))))))))))))))
 refine KD ?_
 refine Km (α:=Nat×Rm×Value×Part) (fun (i,Rs,v,p)=>(4-i))
  (fun (i,Rs,v,p)=> [(0, .int .i64 n),(3,v),(4, .int .i64 i)])
  (fun (i,Rs,v,p)=>(p::K6 Rs::Ps))
  (fun (i,Rs,v,p)=>(RoomF Rs::As))
  (fun (i,Rs,v,p)=>i=Rs.length∧(Rs.length:Int)≤2+n % 3∧RmO Rs∧Row 29 1 v Rs.length (ptRow Rs) p)
  (0,[], .slice none 0 0,[]) ?_ (.cons rfl (.cons rfl (.cons rfl (.nil _)))) (Sk (Sk (Sr))) (fun _ h=>h) ?_
 ·exact ⟨rfl,by show (0:Int)≤2+n % 3;omega,RmO.nil,Row.nil _ _⟩
 ·rintro ⟨i,Rs,v,p⟩ ⟨hil,hi0,hO,hrow⟩
  have hil:i=Rs.length:=hil
  have hi0:(Rs.length:Int)≤2+n % 3:=hi0
  have hO:RmO Rs:=hO
  have hrow:Row 29 1 v Rs.length (ptRow Rs) p:=hrow
  refine Jc (Jc (Ja (Lq (Jb rfl) (Lq (Jb rfl) (Jg rfl (Jm (brought_m n 3 (by decide)) (.cons rfl (.cons rfl (.nil))) (by decide) Jx fun u3_2 Lo fs hres=> ?_))))))
  obtain ⟨rfl,rfl,rfl⟩:=hres
  refine Lq (JV rfl rfl (wr64 (by omega)) (c:=2+n % 3)) (Lq (Ko rfl rfl) (Je (Jf (Jz rfl (fun h11=> ?_) (fun h11=> ?_)))))
  ·refine Jp (Jf (Jc (JN (Jc (Ja (Lq (Jb rfl) (Lq (JV rfl rfl (wr64 (by omega)) (c:=((i+1:Nat):Int))) (Jg rfl (Jm (Jb2) (.nil) (by decide) Jx fun u5_2 Lo fs hres=> ?_)))))))))
   obtain ⟨rfl,rfl,rfl⟩:=hres
   have hlt4:Rs.length<4:=by have h:=h11;simp only [decide_eq_true_eq] at h;omega
   refine Jg rfl (JU (dnew_r Rs i hil hlt4) (.cons rfl (.cons rfl (.nil))) (by decide) (.s (.z)) (Jl Mm0 Jx) fun u5_3 Lo fs hres=> ?_)
   obtain ⟨M2,D2,⟨rfl,hk2,hD2⟩,rfl,rfl⟩:=hres
   refine Lq (Jb rfl) (Lq (Jk (vs:= [_,_]) rfl rfl) (Lq (Jk (vs:= [_,_]) rfl rfl) (Lq (Jd rfl) (Lq (Jd rfl) (Je (Jf (Jc (Jc (Ja (Lq (Jb rfl) (Lq (K4 Un54 rfl) (Lq (Jb rfl) (Lg rfl rfl rfl rfl (Jb rfl) ?_)))))))))))))
   refine Lg rfl rfl rfl rfl (KT Un29 rfl rfl (by simp)) (Lq (JH rfl rfl rfl) (Je (Jf (Jv rfl rfl (Jp (Jf (Ja (Lq (Jb rfl) (Lq (Jb rfl) (Jg rfl (KG (cs:= [_]) Un25 EO (by decide) (by decide) rfl rfl rfl rfl (by decide) fun b29=>Jg rfl (KP (news:= [_]) Un25 EO rfl (by decide) rfl rfl hrow Jn rfl rfl (by omega) (by unfold maxLen;omega) (by decide) (DelAt.perm (.s (.s (.z)))) fun v30 p30 hr30=> ?_))))))))))))
   obtain ⟨As30,cs30,es30⟩:=hr30.slice
   subst es30
   refine Lq (Jd rfl) (Je (Ka (Jf (Ja (Lq (Jb rfl) (Lq (JV rfl rfl (wr64 (by omega)) (c:=((i+1:Nat):Int))) (Lq (Jd rfl) (Je (Ks ?_)))))))))
   refine ⟨(i+1,Rs++ [(M2,D2)],_,p30),?_,(.cons rfl (.cons rfl (.cons rfl (.nil _)))),(Sk (Sd (Sk (Sr)))),(Jl Mm0 Tt2)⟩
   subst hD2
   have hlt:(i:Int)<2+n % 3:=by have h:=h11;simp only [decide_eq_true_eq] at h;omega
   exact ⟨by show 4-(i+1)<4-i;omega,by show i+1=_;rw [List.length_append];simp;omega,by show ((Rs++ [_]).length:Int)≤_;rw [List.length_append];simp;omega,hO.add hk2,by show Row _ _ _ (Rs++ [_]).length _ _;rw [HU,List.length_append];exact hr30⟩
  ·refine Kn (JO (JO (Ke (Jf (Jc ?_)))))
   have hdn:(Rs.length:Int)=2+n % 3:=by have h:=h11;simp only [decide_eq_false_iff_not] at h;omega
   have hrm:=hO.rm (by omega)
   refine J9 (A:=RepsF ptD (Rs.map fun (r:DM×DS)=>r.1.d) ((Rs.map fun (r:DM×DS)=>r.1.d).map fun x=> [.pointer (some ⟨x,0,none⟩)])) (fun Z w _=>pt_reps Z w _) (KF (e:=ptD) (xs:=(Rs.map fun (r:DM×DS)=>r.1.d)) (css:=((Rs.map fun (r:DM×DS)=>r.1.d).map fun x=> [.pointer (some ⟨x,0,none⟩)])) (by rw [ptRow_flat];exact hrow) (.z) (by simp) Mm0 fun A9 c9 e9=> ?_)
   cases e9
   refine Ja (Lq (Jb rfl) (Lq (Jd rfl) (Je (Jf (Jo ?_)))))
   refine ⟨_,[_],[_,_],fun Z w hs=> .tmp rfl (.nil),?_,fun Z w hs=>hs.out (Sk (Sr)) (Jl Mm0 Tt2)⟩
   exact ⟨Rs,_,_,hrm,(by show Value.slice _ _ _=_;rw [List.length_map]),rfl,rfl⟩
structure BdN (k:Nat) (D:DS):Prop where
 n:D.H.ops.length+k≤700
 m:D.made+k≤700∧(D.made:Int)+k<D.op
 c:5*((D.H.ops.length:Int)+k)≤D.ce
theorem BdN.bd {q:Nat} {D:DS} (h:BdN (q+1) D):Bd D:=by
 have h1:=h.n
 have h2:=h.m
 have h3:=h.c
 exact ⟨by omega,by omega,by omega⟩
theorem Acted.bdn {D D2:DS} (h:Acted D D2) {q:Nat} (hb:BdN (q+1) D):BdN q D2:=by
 obtain ⟨_,⟨_,h2,h3⟩,_,h4⟩:=h
 have b1:=hb.n
 have b2:=hb.m
 have b3:=hb.c
 rcases h4 with ⟨e1,_,e2⟩ | ⟨o,_,_,e1,e2⟩
 ·exact ⟨by rw [e1];omega,by rw [e2,h3];omega,by rw [e1,h2];omega⟩
 ·have e3:D2.H.ops.length=D.H.ops.length+1:=by rw [e1];simp
  exact ⟨by omega,by rw [e2,h3];omega,by rw [e3,h2];omega⟩
structure InsV (D:DS) (p:Nat) (text:ByteArray) (D2:DS):Prop where
 dv:DV D2
 ac:Acted D D2
 vis:Kh D2.X=(Kh D.X).take p++(JW text++(Kh D.X).drop p)
 crt:J3 (D2.X.take D2.gap)=p+(JW text).length
structure DelV (D:DS) (p n:Nat) (D2:DS):Prop where
 dv:DV D2
 ac:Acted D D2
 vis:Kh D2.X=(Kh D.X).take p++(Kh D.X).drop (p+n)
 crt:J3 (D2.X.take D2.gap)=p
theorem ins_v (M:DM) (D:DS) (ok:DkOk M D) (hv:DV D) (q:Nat) (hb:BdN (q+1) D) (p:Nat) (hp:p≤J3 D.X) (text:ByteArray) (hts:text.size≤1048576) (hu:(utF text).2.2=0) (hu1:1≤(utF text).1∧(utF text).1≤5):Sp Tryz.prog 13 [.pointer (some ⟨M.d,0,none⟩), .int .i64 p, .string text] (KA M D) (barF::KV M D) (fun v Lo fs=> ∃(k:Nat) (M2:DM) (D2:DS),(D2=insD D k text∧Pth D.X p k∧D2.X=D.X.take k++(cellsOf (JW text) 0++D.X.drop k))∧InsV D p text D2∧BdN q D2∧M2.d=M.d∧DkOk M2 D2∧v= .tuple #[opV (insO D k text) none 0, .nilIface] ∧Lo=KA M2 D2∧fs=KV M2 D2):=by
 have hbd:=hb.bd
 have hpu:=hv.put_ D.u
 have hbm:=hbd.m
 have hbn:=hbd.n
 have hbc:=hbd.c
 have hlm:=ok.lm
 have hru:=Y0 hu
 have hmk: ∀k,Pth D.X p k→MkD D (insO D k text):=fun k hk=>(hv.insM (by omega) (by omega) hk hu (by omega)).1
 refine (insert_0 M D ok p hp text hts hu (by omega) (by omega) (by omega) hmk hv.nU hv.nR).mono ?_
 rintro v Lo fs ⟨k,M2,hk,hd,hok,rfl,rfl,rfl⟩
 obtain ⟨h1,h2⟩:=hv.insD (hmk k hk) hu1
 obtain ⟨-,h3,h4⟩:=hv.insM (by omega) (by omega) hk hu (by omega)
 exact ⟨k,M2,insD D k text,⟨rfl,hk,ins_row hv.di (hv.ins (by omega) (by omega) hk.le hu (by omega))⟩,⟨h1,h2,h3,by rw [show (JW text).length=(utF text).1.toNat by omega];exact h4⟩,h2.bdn hb,hd,hok,rfl,rfl,rfl⟩
theorem del_v (M:DM) (D:DS) (ok:DkOk M D) (hv:DV D) (q:Nat) (hb:BdN (q+1) D) (p n:Nat) (hn0:0<n) (hpn:p+n≤J3 D.X):Sp Tryz.prog 17 [.pointer (some ⟨M.d,0,none⟩), .int .i64 p, .int .i64 n] (KA M D) (barF::KV M D) (fun v Lo fs=> ∃(xs:List Rg) (M2:DM) (D2:DS) (A9:Option Addr) (c9:Nat),(VisR p n D.X xs∧D2.X=KL xs 1 D.X∧D2.u=D.u)∧DelV D p n D2∧BdN q D2∧M2.d=M.d∧DkOk M2 D2∧v= .tuple #[opV (hideO D xs) A9 c9, .nilIface] ∧Lo=KA M2 D2∧fs=KV M2 D2++ [RdF rgD A9 c9 xs]):=by
 have hbd:=hb.bd
 have hbm:=hbd.m
 have hbn:=hbd.n
 have hlm:=ok.lm
 have hmk: ∀xs,VisR p n D.X xs→MkD D (hideO D xs)∧p≤J3 (JS (mkE D (hideO D xs)) D.X):=fun xs hx=>by
  obtain ⟨h1,h2⟩:=hv.hideM (by omega) (by omega) hn0 hpn hx
  refine ⟨h1,?_⟩
  rw [←Ku,h2,List.length_append,List.length_take,Ku];omega
 refine (delete_0 M D ok p n hn0 hpn (by omega) hmk hv.nU hv.nR).mono ?_
 rintro v Lo fs ⟨xs,k,M2,A9,c9,hV,hB,hd,hok,rfl,rfl,rfl⟩
 obtain ⟨h1,h2⟩:=hv.hideD k (hmk xs hV).1
 obtain ⟨-,h3⟩:=hv.hideM (by omega) (by omega) hn0 hpn hV
 exact ⟨xs,M2,hideD D xs k,A9,c9,⟨hV,hide_row hv.di (hv.hide (by omega) (by omega) hV.pls (hV.ne hn0 hpn)),rfl⟩,⟨h1,h2,h3,hB.ct⟩,h2.bdn hb,hd,hok,rfl,rfl,rfl⟩
theorem und_v (M:DM) (D:DS) (ok:DkOk M D) (hv:DV D) (q:Nat) (hb:BdN (q+1) D) (p k:Nat) (hk:Pth D.X p k) (text:ByteArray) (hu:(utF text).2.2=0) (hu1:1≤(utF text).1∧(utF text).1≤5) (M3:DM) (D3:DS) (hD3:D3=insD D k text) (ok3:DkOk M3 D3) (hb3:BdN 1 D3):Sp Tryz.prog 39 [.pointer (some ⟨M3.d,0,none⟩)] (KA M3 D3) (barF::KV M3 D3) (fun v Lo fs=> ∃(M2:DM) (D2:DS) (o:GOp),(Kh D2.X=Kh D.X∧J3 (D2.X.take D2.gap)=p)∧M2.d=M3.d∧DkOk M2 D2∧v= .tuple #[opV o none 0, .nilIface] ∧Lo=KA M2 D2∧fs=KV M2 D2):=by
 have hbd:=hb.bd
 have hbm:=hbd.m
 have hbn:=hbd.n
 have hb3m:=hb3.m
 obtain ⟨j,hU⟩:=ins_undo hv (by omega) (by omega) hk hu hu1
 rw [←hD3] at hU
 refine (Ze M3 D3 ok3 (by omega) D.u ((D.made:Int)+1) j hU.hx hU.tud).mono ?_
 rintro v Lo fs ⟨M2,hd,hok,rfl,rfl,rfl⟩
 exact ⟨M2,_,_,⟨hU.vis,hU.crt⟩,hd,hok,rfl,rfl,rfl⟩
theorem str_beq {s t:ByteArray} :(s==t)=true↔s=t:=by
 rw [beq_toListBytes,ByteArray.toList_eq,ByteArray.toList_eq]
 obtain ⟨⟨x⟩⟩:=s
 obtain ⟨⟨y⟩⟩:=t
 simp
theorem QW (s:ByteArray): ∀(m i:Nat) (acc:Array Value),s.size-i≤m→(Conv.runesFrom s m i acc).toList=acc.toList++ints .i32 (runesAt s i)
 | 0,i,acc,h=>by
  rw [Conv.runesFrom,runesAt,dif_neg (by omega)];simp [ints]
 | m+1,i,acc,h=>by
  rw [Conv.runesFrom,runesAt]
  by_cases hi:i<s.size
  ·have hd:=decode_pos s i
   rw [if_pos hi,dif_pos hi]
   simp only
   rw [QW s m _ _ (by omega)]
   simp [ints]
  ·rw [if_neg hi,dif_neg hi];simp [ints]
theorem Vj (s:ByteArray):(JW s).length≤s.size:=by
 have h1:=size_runesFrom s s.size 0 #[]
 have h2:=congrArg List.length (QW s s.size 0 #[] (by omega))
 simp only [Array.length_toList,List.length_append,List.length_nil,ints,List.length_map] at h2
 simp only [List.size_toArray,List.length_nil] at h1
 unfold JW
 omega
section
variable {P:Program} {n:Dm} {R:Post} {K:Nx} {l:Fr} {Ps Ps':List Part} {As:List Fact} {d:Nat} {ty:TypeId} {pos:String} {aft:Array Edge} {g:Option (Nat×Bool)}
theorem ZZ {src dst e:TypeId} {x:Operand} {s:ByteArray} (hs:P.underlying src=some .string) (hd:P.underlying dst=some (.slice e)) (he:P.underlying e=some (.int .i32)) (hx:evs l x=some (.string s)) (hz:s.size≤1073741824) (hdn:d<n.sz)
  (h: ∀(b c:Nat),K ((d, .slice (some ⟨b,0,none⟩) (JW s).length c)::l) Ps (RdF runeD (some ⟨b,0,none⟩) c (JW s)::As)):OW P n R l Ps As ⟨some d, .convert src dst x,ty,pos,aft,g⟩ K:=
 KW rfl hdn fun Z w ρ hst hρ=>by
  have hl:=QW s s.size 0 #[] (by omega)
  have hn:(Conv.runesFrom s s.size 0 #[]).size=(JW s).length:=by
   rw [←Array.length_toList,hl];simp [ints,JW]
  have hle:=Vj s
  have hrun:=run_runes_of_string (P:=P) w src dst e s hs hd he (by rw [hn];omega)
  rw [hn] at hrun
  have hcap:=grownCap_ge w (JW s).length 0 e
  have hmx:=grownCap_le_maxLen w (JW s).length 0 e (by unfold maxLen;omega)
  have hcells:(Conv.runesFrom s s.size 0 #[] ++Array.replicate (grownCap w (JW s).length 0 e-(JW s).length) (Value.int .i32 0))=(ints .i32 (JW s)++List.replicate (grownCap w (JW s).length 0 e-(JW s).length) (Value.int .i32 0)).toArray:=by
   apply Array.ext'
   rw [Array.toList_append,hl]
   simp [JW]
  rw [hcells] at hrun
  have hal:=(hst.drew (w.drawn+1)).alloc (JA (ints .i32 (JW s)++List.replicate (grownCap w (JW s).length 0 e-(JW s).length) (Value.int .i32 0)) e)
  have hrow:Row e 1 (.slice (some ⟨w.heap.size,0,none⟩) (JW s).length (grownCap w (JW s).length 0 e)) (JW s).length (((JW s).map fun x=> [Value.int .i32 x]).flatten) [(w.heap.size,JA (ints .i32 (JW s)++List.replicate (grownCap w (JW s).length 0 e-(JW s).length) (Value.int .i32 0)) e)] :=by
   rw [ints_flat]
   exact ⟨by simp [ints], .inr ⟨w.heap.size,_,List.replicate (grownCap w (JW s).length 0 e-(JW s).length) (Value.int .i32 0),rfl,rfl,by simp [ints];omega,hcap,hmx⟩⟩
  obtain ⟨A,cap,he2,hR⟩:=Row.freeze (e:=runeD) hrow rfl hal (ints_reps .i32 _ Z _)
  cases he2
  refine ⟨_,_,_,_,_,?_,hal.freeze.addFact (A:=RdF runeD (some ⟨w.heap.size,0,none⟩) (grownCap w (JW s).length 0 e) (JW s)) hR,h _ _⟩
  simp only [execOp,hρ _ _ hx,Sem.run_bind,hrun,Result.andThen_ok,Sem.run_pure]
  rfl
theorem Zp {src dst e:TypeId} {x:Operand} {A:Option Addr} {c:Nat} {xs:List Int} (hs:P.underlying src=some (.slice e)) (he:P.underlying e=some (.int .i32)) (hd:P.underlying dst=some .string) (hx:evs l x=some (.slice A xs.length c)) (hA:RdF runeD A c xs∈As):
  QR P l Ps As ⟨some d, .convert src dst x,ty,pos,aft,g⟩ (.string (runesBytes xs)):=fun Z w ρ hst hρ=>by
 have key:(convert src dst (.slice A xs.length c)).run P w= .ok (.string (runesBytes xs)) w:=by
  obtain ⟨g1,g2,⟨rfl,g3⟩ | ⟨b,q,css,rfl,g4,g5,g6⟩⟩:RdS runeD Z w A c xs:=hst.facts _ hA
  ·rcases A with _ | ad
   ·exact run_convert_runes_nil w src dst e _ _ hs he hd
   ·exact run_convert_runes w src dst e ad 0 c [] (Nat.le_refl _) hs he hd (fun j hj=>by simp at hj)
  ·have hfl:css.flatten=ints .i32 xs:=by
    clear g6 hx hA g1
    induction g5 with
    | nil=>rfl
    | cons h t ih=>
     subst h
     rw [List.flatten_cons,ih];rfl
   have:=run_convert_runes (P:=P) w src dst e ⟨b,q,none⟩ xs.length c xs (Nat.le_refl _) hs he hd (fun j hj=>by
    rw [KO]
    refine g6.cell ?_
    rw [hfl,ints,List.getElem?_map,List.getElem?_eq_getElem hj]
    simp [List.getD,List.getElem?_eq_getElem hj])
   rw [List.take_length] at this
   exact this
 simp only [execOp,hρ _ _ hx,Sem.run_bind,key,Result.andThen_ok,Sem.run_pure]
end
theorem dnew_v:Sp Tryz.prog 36 [.int .i64 1, .agg #[.int .i64 2, .int .i64 100, .int .i64 100]] [] [] (fun v Lo fs=> ∃(M:DM) (D:DS),(D.X= [] ∧D.u=1∧DV D∧BdN 4 D)∧v= .tuple #[.pointer (some ⟨M.d,0,none⟩), .nilIface] ∧DkOk M D∧Lo=KA M D∧fs=KV M D):=by
 refine (ZF 1 2 100 100 (by decide) (by decide) (by decide) (by decide)).mono ?_
 rintro v Lo fs ⟨M,rfl,hok,rfl,rfl⟩
 exact ⟨M,zeroD 1 2 100 100,⟨rfl,rfl,DV.zero (by decide) _ _ _,⟨by show 0+4≤700;omega,⟨by show 0+4≤700;omega,by show ((0:Nat):Int)+(4:Nat)<100;omega⟩,by show 5*(((0:Nat):Int)+(4:Nat))≤100;omega⟩⟩,rfl,hok,rfl,rfl⟩
theorem aw1 {D:DS} (hX:D.X= []) {k:Nat} (hk:Pth D.X 0 k) {X1:List Ce} (h:X1=D.X.take k++(cellsOf (JW abcB) 0++D.X.drop k)):X1=awX1:=by
 rw [hX] at h hk
 rw [h,aw_k0 hk,rn_abc];rfl
theorem aw3 {X:List Ce} (hX:X=awX2) {k:Nat} (hk:Pth X 1 k) {X3:List Ce} (h:X3=X.take k++(cellsOf (JW xB) 0++X.drop k)):k=2∧X3=awX2.take 2++(cellsOf [88] 0++awX2.drop 2):=by
 subst hX
 obtain rfl:=aw_k2 hk
 exact ⟨rfl,by rw [h,rn_x]⟩
theorem bd38_0_1_2Xg28 (x0_:Int) (x1_:Int) (x2_:Int) (w:World):(Instr.build 38 #[(0, .int .i64 x0_),(1, .int .i64 x1_),(2, .int .i64 x2_)]).run Tryz.prog w= .ok (.agg #[.int .i64 x0_, .int .i64 x1_, .int .i64 x2_]) w:=by kernel_rfl
set_option maxRecDepth 10000 in
theorem Jay:Sp Tryz.prog 8 [] [] [barF] (Is (.bool true)):=by
 refine Sp.of (n:=85) ⟨_,Tryz.func8,rfl,rfl,rfl,rfl⟩ (Nat.le_of_ble_eq_true rfl) fun Ps As=>Jc (Ja (Lq (Jd rfl) (Je (Jf (Jc (Ja (Lq (J0 (.cons rfl (.cons rfl (.cons rfl (.nil)))) (bd38_0_1_2Xg28 _ _ _)) (Jg rfl (Jm (dnew_v) (.cons rfl (.cons rfl (.nil))) (by decide) Jx fun u1_1 Lo fs hres=> ?_)))))))))
 obtain ⟨M0,D0,⟨hX0,hu0,hv0,hb0⟩,rfl,hok0,rfl,rfl⟩:=hres
 refine Lq (Jb rfl) (Lq (Jk (vs:= [_,_]) rfl rfl) (Lq (Jk (vs:= [_,_]) rfl rfl) (Lq (Jd rfl) (Lq (Jd rfl) (Je (Jf (Jc (Jc (Ja (Lq (Jb rfl) (Lq (K4 Un54 rfl) (Lq (Jb rfl) (Lg rfl rfl rfl rfl (Jb rfl) ?_)))))))))))))
 refine Lg rfl rfl rfl rfl (KT Un29 rfl rfl (by simp)) (Lq (JH rfl rfl rfl) (Je (Jf (Jv rfl rfl (Jp (Jf (Jc (Ja (Lq (Jb rfl) (Jg rfl (J5 (ins_v M0 D0 hok0 hv0 3 hb0 0 (Nat.zero_le _) abcB (by decide) (by rw [ut_abc]) (by rw [ut_abc];decide)) (.cons rfl (.cons rfl (.cons rfl (.nil)))) (by decide) (.cons (.z) (.cons (.z) (.cons (.z) (.cons (.z) (.cons (.z) (.cons (.z) (.cons (.z) (.cons (.z) .nil)))))))) (Jl Mm3 (Jl Mm0 (Jl Mm1 (Jl Mm2 Jx)))) fun u4_1 Lo fs hres=> ?_)))))))))))
 obtain ⟨k1,M1,D1,hE1,hI1,hb1,hd1,hok1,rfl,rfl,rfl⟩:=hres
 refine Lq (Jb rfl) (Lq (Jk (vs:= [_,_]) rfl rfl) (Lq (Jk (vs:= [_,_]) rfl rfl) (Jg rfl (Ju (cs:= [_,_,_,_,_,_,_,_,_]) JB rfl (by decide) fun b3=>Jg rfl (Jq (cs':= [_,_,_,_,_,_,_,_,_]) (vs:= [_,_,_,_,_,_,_,_,_]) JB rfl rfl rfl rfl rfl (Nat.le_of_ble_eq_true rfl) (.z) (Lq (Jd rfl) (Je (Jf (Jc (Ja (Lq (Jb rfl) ?_)))))))))))
 have hX1:=aw1 hX0 hE1.2.1 hE1.2.2
 rw [←hd1]
 refine Jg rfl (J5 (del_v M1 D1 hok1 hI1.dv 2 hb1 1 1 (by decide) (by rw [hX1];decide)) (.cons rfl (.cons rfl (.cons rfl (.nil)))) (by decide) (.cons (.s (.z)) (.cons (.s (.z)) (.cons (.s (.z)) (.cons (.s (.z)) (.cons (.s (.z)) (.cons (.s (.z)) (.cons (.s (.z)) (.cons (.s (.z)) .nil)))))))) (Jl Mm6 (Jl Mm0 (Jl Mm1 (Jl Mm2 Jx)))) fun u5_1 Lo fs hres=> ?_)
 obtain ⟨xs2,M2,D2,A2,c2,hE2,hI2,hb2,hd2,hok2,rfl,rfl,rfl⟩:=hres
 refine Lq (Jb rfl) (Lq (Jk (vs:= [_,_]) rfl rfl) (Lq (Jk (vs:= [_,_]) rfl rfl) (Jg rfl (Ju (cs:= [_,_,_,_,_,_,_,_,_]) JB rfl (by decide) fun b5=>Jg rfl (Jq (cs':= [_,_,_,_,_,_,_,_,_]) (vs:= [_,_,_,_,_,_,_,_,_]) JB rfl rfl rfl rfl rfl (Nat.le_of_ble_eq_true rfl) (.z) (Lq (Jd rfl) (Je (Jf (Jc (Ja (Lq (Jb rfl) ?_)))))))))))
 have hX2:D2.X=awX2:=by rw [hE2.2.1,hX1];exact aw_x2 (hX1 ▸ hE2.1)
 rw [←hd2]
 refine Jg rfl (J5 (ins_v M2 D2 hok2 hI2.dv 1 hb2 1 (by rw [hX2];decide) xB (by decide) (by rw [ut_x]) (by rw [ut_x];decide)) (.cons rfl (.cons rfl (.cons rfl (.nil)))) (by decide) (.cons (.s (.z)) (.cons (.s (.z)) (.cons (.s (.z)) (.cons (.s (.z)) (.cons (.s (.z)) (.cons (.s (.z)) (.cons (.s (.z)) (.cons (.s (.z)) .nil)))))))) (Jl Mm10 (Jl Mm0 (Jl Mm1 (Jl Mm2 Jx)))) fun u6_1 Lo fs hres=> ?_)
 obtain ⟨k3,M3,D3,hE3,hI3,hb3,hd3,hok3,rfl,rfl,rfl⟩:=hres
 refine Lq (Jb rfl) (Lq (Jk (vs:= [_,_]) rfl rfl) (Lq (Jk (vs:= [_,_]) rfl rfl) (Jg rfl (Ju (cs:= [_,_,_,_,_,_,_,_,_]) JB rfl (by decide) fun b7=>Jg rfl (Jq (cs':= [_,_,_,_,_,_,_,_,_]) (vs:= [_,_,_,_,_,_,_,_,_]) JB rfl rfl rfl rfl rfl (Nat.le_of_ble_eq_true rfl) (.z) (Lq (Jd rfl) (Je (Jf (Jc (Jc ?_))))))))))
 have hvl:=Kl M3.t.row
 have hwt:=hok3.wt
 have htl:=hok3.tl
 have hrow:=hok3.row
 have hpl:=hok3.pl
 obtain ⟨hk3,hX3⟩:=aw3 hX2 hE3.2.1 hE3.2.2
 rw [←hd3]
 refine Ja (Lq (Jb rfl) (Lq (K4 Un54 rfl) (Lq (Jb rfl) (Lg rfl rfl rfl rfl (Jb rfl) (Lg rfl rfl rfl rfl (K4 Un54 rfl) (Lq (JH rfl rfl rfl) (Lq (Jb rfl) (Lg rfl rfl rfl rfl (Jb rfl) (Lg rfl rfl rfl rfl (K4 Un54 rfl) ?_)))))))))
 refine Lq (JH rfl rfl rfl) (Lq (Jb rfl) (Lg rfl rfl rfl rfl (Jb rfl) (Lg rfl rfl rfl rfl (JC rfl) (Lg rfl rfl rfl rfl (Jh (o':=0) Un42 rfl Yn rfl rfl) (Kv rfl rfl rfl rfl (Kp (YS M3.d M3.h M3.b _ _ M3.B M3.t hwt (by omega)) (.cons rfl (.nil)) (by decide) (.s (.z)) (.s (.s (.s (.s (.z))))) (Jl Mm2 Jx) fun u7_14 Lo fs hres=> ?_))))))
 obtain ⟨rfl,rfl,rfl⟩:=hres
 rw [hrow,hX3,aw_t3]
 refine Lg rfl rfl rfl rfl (ET rfl rfl) (Lq (JH rfl rfl rfl) (Lq (Jb rfl) (Lg rfl rfl rfl (by rw [str_beq.2 rfl];rfl) (Jb rfl) (Kv rfl rfl rfl (by rw [str_beq.2 rfl];rfl) (J5 (Jbr M3 D3 hok3) (.cons rfl (.nil)) (by decide) (.cons (.z) (.cons (.s (.s (.z))) (.cons (.s (.s (.z))) (.cons (.s (.s (.z))) (.cons (.z) (.cons (.s (.z)) (.cons (.s (.z)) (.cons (.s (.z)) .nil)))))))) Jx fun u7_19 Lo fs hres=> ?_)))))
 obtain ⟨rfl,rfl,rfl⟩:=hres
 rw [show D3.gap=3 by rw [hE3.1];show k3+(utF xB).1.toNat=3;rw [ut_x,hk3];rfl]
 refine Lg rfl rfl rfl (by rw [str_beq.2 rfl];rfl) (Ky rfl rfl) (Lq (JH rfl (by rw [str_beq.2 rfl];rfl) rfl) (Lq (Jb rfl) (Lg rfl rfl rfl (by decide) (Jb rfl) (Lg rfl rfl rfl (by decide) (JC rfl) (Lg rfl rfl rfl (by decide) (Jh (o':=0) Un42 rfl Yn rfl rfl) (Kv rfl rfl rfl (by decide) (Kp (HS M3.d M3.b _ _ M3.h M3.B M3.t hwt) (.cons rfl (.nil)) (by decide) (.z) (.s (.s (.s (.z)))) (Jl Mm2 Jx) fun u7_26 Lo fs hres=> ?_)))))))
 obtain ⟨rfl,rfl,rfl⟩:=hres
 rw [show M3.t.row.length=4 by rw [hrow,hX3];rfl]
 refine Lg rfl rfl rfl (by decide) (Ky rfl rfl) (Lq (JH rfl (by decide) rfl) (Je (Jf (Jv rfl rfl (Jp (Jf (Jc (Ja (Lq (Jb rfl) (Jg rfl (J5 (und_v M2 D2 hok2 hI2.dv 1 hb2 1 k3 hE3.2.1 xB (by rw [ut_x]) (by rw [ut_x];decide) M3 D3 hE3.1 hok3 hb3) (.cons rfl (.nil)) (by decide) (.cons (.z) (.cons (.s (.z)) (.cons (.s (.z)) (.cons (.s (.z)) (.cons (.z) (.cons (.z) (.cons (.z) (.cons (.z) .nil)))))))) (Jl Mm13 (Jl Mm0 (Jl Mm1 (Jl Mm2 Jx)))) fun u9_1 Lo fs hres=> ?_)))))))))))
 obtain ⟨M4,D4,o4,hU4,hd4,hok4,rfl,rfl,rfl⟩:=hres
 refine Lq (Jb rfl) (Lq (Jk (vs:= [_,_]) rfl rfl) (Lq (Jk (vs:= [_,_]) rfl rfl) (Jg rfl (Ju (cs:= [_,_,_,_,_,_,_,_,_]) JB rfl (by decide) fun b9=>Jg rfl (Jq (cs':= [_,_,_,_,_,_,_,_,_]) (vs:= [_,_,_,_,_,_,_,_,_]) JB rfl rfl rfl rfl rfl (Nat.le_of_ble_eq_true rfl) (.z) (Lq (Jd rfl) (Je (Jf (Jc (Ja (Lq (Jb rfl) (Lq (Qr Un54 rfl) (Lq (Jb rfl) ?_)))))))))))))
 refine Lg rfl rfl rfl rfl (Jb rfl) (Lg rfl rfl rfl rfl (JC rfl) (Lg rfl rfl rfl rfl (Jh (o':=0) Un42 rfl Yn rfl rfl) ?_))
 rw [←hd4]
 refine Kv rfl rfl rfl rfl (Kp (YS M4.d M4.h M4.b _ _ M4.B M4.t hok4.wt (by have:=hok4.tl;omega)) (.cons rfl (.nil)) (by decide) (.s (.z)) (.s (.s (.s (.s (.z))))) (Jl Mm2 Jx) fun u10_6 Lo fs hres=> ?_)
 obtain ⟨rfl,rfl,rfl⟩:=hres
 rw [hok4.row,text_vis (hU4.1.trans (congrArg Kh hX2)),aw_t4]
 refine Lg rfl rfl rfl rfl (EW rfl rfl) (Lq (JP rfl rfl rfl) (Lq (Jb rfl) (Lg rfl rfl rfl (str_beq.2 rfl) (Jb rfl) (Kv rfl rfl rfl (str_beq.2 rfl) (J5 (Ga M4 D4 hok4) (.cons rfl (.nil)) (by decide) (.cons (.z) (.cons (.s (.s (.z))) (.cons (.s (.s (.z))) (.cons (.s (.s (.z))) (.cons (.z) (.cons (.s (.z)) (.cons (.s (.z)) (.cons (.s (.z)) .nil)))))))) (Jl Mm16 (Jl Mm0 (Jl Mm1 (Jl Mm2 Jx)))) fun u10_11 Lo fs hres=> ?_)))))
 obtain ⟨rfl,rfl,rfl⟩:=hres
 rw [hU4.2]
 refine Lg rfl rfl rfl (str_beq.2 rfl) (Kg rfl rfl) (Lq (JP rfl (str_beq.2 rfl) rfl) (Lq (Jd rfl) (Je (Jf (Jo ?_)))))
 refine ⟨_,[],[],fun Z w hs=> .tmp rfl (.nil),?_,fun Z w hs=>hs.out (Sd (Sd (Sd (Sd (Sd (Sd (Sd (Sd (Sd (Sd (Sd (Sd (Sr))))))))))))) Tt16⟩
 exact ⟨rfl,rfl,rfl⟩
set_option maxRecDepth 10000 in
theorem Qd (s:ByteArray) (hz:s.size≤1073741824):Sp Tryz.prog 10 [.string s] [] [] (fun v Lo fs=> ∃b c:Nat,v= .slice (some ⟨b,0,none⟩) (JW s).length c∧Lo= [] ∧fs= [RdF runeD (some ⟨b,0,none⟩) c (JW s)]):=by
 refine Sp.of (n:=5) ⟨_,Tryz.func10,rfl,rfl,rfl,rfl⟩ (Nat.le_of_ble_eq_true rfl) fun Ps As=>Jc (Ja (Lq (Jd rfl) (Je (Jf (Jc (Ja (Lq (Jb rfl) (Jg rfl (ZZ Un9 Un30 Un21 rfl hz (by decide) fun b4 c4=>Lq (Jd rfl) (Je (Jf (Jo ?_))))))))))))
 refine ⟨_,[],[_],fun Z w hs=> .tmp rfl (.nil),?_,fun Z w hs=>hs.out (Sr) (fun _ h=>h)⟩
 exact ⟨b4,c4,rfl,rfl,rfl⟩
set_option maxRecDepth 10000 in
theorem XS (A1 A2:Option Addr) (c1 c2:Nat) (xs ys:List Int) (hxy:xs=ys):Sp Tryz.prog 14 [.slice A1 xs.length c1, .slice A2 ys.length c2] [] [RdF runeD A1 c1 xs,RdF runeD A2 c2 ys] (Is (.bool true)):=by
 refine Sp.of (n:=10) ⟨_,Tryz.func14,rfl,rfl,rfl,rfl⟩ (Nat.le_of_ble_eq_true rfl) fun Ps As=>Jc (Ja (Lq (Jd rfl) (Je (Jf (Jc (Ja (Lq (Jb rfl) (Lq (Zp Un30 Un21 Un9 rfl Mm0) (Lq (Jb rfl) (Lq (Zp Un30 Un21 Un9 rfl Mm1) (Lq (EW rfl rfl) (Lq (Jd rfl) ?_))))))))))))
 refine Je (Jf (Jo ?_))
 refine ⟨_,[],[],fun Z w hs=> .tmp rfl (.nil),?_,fun Z w hs=>hs.out (Sr) (fun _ h=>h)⟩
 subst hxy
 exact ⟨by show Value.bool (runesBytes xs==runesBytes xs)=_;rw [str_beq.2 rfl],rfl,rfl⟩
section
variable {P:Program} {n:Dm} {R:Post} {l:Fr} {Ps:List Part} {As:List Fact} {dd:Option Tmp} {ty:TypeId} {pos:String} {aft:Array Edge} {g:Option (Nat×Bool)}
theorem ZX {α:Type} (fr:α→Fr) (ps:α→List Part) (qs:α→List Fact) (p:α→Prop) {x y y2 z:Code} (h1:WC P n x (Qm (WC P n y (Qm (WC P n y2 (Qm (fun l Ps As=> ∃x,p x∧Sub (fr x) l∧(ps x).Sublist Ps∧ ∀A∈qs x,A∈As) R)) R)) R) l Ps As) (h2: ∀x,p x→WC P n z R (fr x) (ps x) (qs x)):WC P n (.seq x (.seq y (.seq y2 z))) R l Ps As:=
 Jc (h1.mono fun e l Ps As he=>by
  cases e with
  | normal=>exact ZY fr ps qs p he h2
  | _=>exact he)
theorem Jai {t t2 E:TypeId} {x:Operand} {a:Addr} {m c:Nat} (hu:P.underlying t=some (.slice E)) (hx:evs l x=some (.slice (some a) m c)):QR P l Ps As ⟨dd, .binOp .eql t x (.const (.slice none 0 0)) t2,ty,pos,aft,g⟩ (.bool false):=fun Z w ρ hs hρ=>by
 have hy:ρ (.const (.slice none 0 0))= .slice none 0 0:=hρ _ _ rfl
 have h0:binOp .eql t (.slice (some a) m c) (.slice none 0 0)=(do pure (.bool (←Op.equalIn (9999+1) t (.slice (some a) m c) (.slice none 0 0)))):=rfl
 have h1:eqGuard .eql t x (.const (.slice none 0 0)) (.slice (some a) m c) (.slice none 0 0)=pure ():=by unfold eqGuard;rfl
 have h2:(Op.equalIn (9999+1) t (.slice (some a) m c) (.slice none 0 0)).run P w= .ok false w:=by
  unfold Op.equalIn
  simp only [Sem.run_bind,run_underlying hu,Result.andThen_ok]
  rfl
 simp only [execOp,hρ _ _ hx,hy,h1,h0,Sem.run_bind,h2,Result.andThen_ok,Sem.run_pure]
theorem H4 {c:Code} {M:DM} {D:DS} {Rs:Rm} (hF:RoomF ((M,D)::Rs)∈As) (h:WC P n c R l (dkB M D::hdP M.h M.A D.H.ops.length M.cap M.m D.H.total::mpP M.m M.L::mkP M.L::rpP M.b M.B::stP M.s M.vu M.vr::M.pu::M.pr::Ps) (RdF opD M.A M.cap D.H.ops::AllF M.L nowF::TrF M.B M.t::As)):WC P n c R l (K6 ((M,D)::Rs)::Ps) As:=
 WC_openRm 0 (by simp) hF h
end
theorem YM (X:List Ce):(textF X).size≤4*X.length:=by
 have h1:=QN (Kh X)
 have h2:=Ku X
 have h3:=Kl X
 have h4:(textF X).size=((Kh X).flatMap encI).length:=by
  unfold textF vbs strOf ByteArray.size bytesU
  simp
 omega
theorem RmI.hd {k:Nat} {Rs:Rm} {G:List GOp} (h:RmI k Rs G): ∃M D T,Rs=(M,D)::T:=by
 match Rs,h.len with
 | [],h=>simp at h
 | (M,D)::T,_=>exact ⟨M,D,T,rfl⟩
theorem RmI.bdn {k:Nat} {Rs:Rm} {G:List GOp} (h:RmI k Rs G) (hk:k≤600) {r:DM×DS} (hr:r∈Rs) (q:Nat) (hq:q≤50):BdN q r.2:=by
 have h1:=(h.n r hr).1
 have h2:=h.md r hr
 have h3:=h.lm r hr
 exact ⟨by omega,by omega,by omega⟩
theorem del_x (M:DM) (D:DS) (ok:DkOk M D) (p n:Int) (h: ¬(0≤p∧0<n∧p+n≤J3 D.X)):Sp Tryz.prog 17 [.pointer (some ⟨M.d,0,none⟩), .int .i64 p, .int .i64 n] (KA M D) (barF::KV M D) (RefO M D):=by
 by_cases hp:0≤p∧p≤J3 D.X
 ·by_cases hn:n=0
  ·exact delete_e3 M D ok p n hp hn
  ·exact delete_e2 M D ok p n hp (by omega)
 ·exact delete_e1 M D ok p n hp
set_option maxRecDepth 10000 in
theorem Jar (nd:Int) (B1:Option Addr) (cb:Nat) (acts:List GAct) (p n:Int) (tv:Value):Sp Tryz.prog 3 [.agg #[.int .i64 nd, .slice B1 acts.length cb], .int .i64 p, .int .i64 n,tv] [] [barF,wordsF,RdF actD B1 cb acts] (Is (.bool true)):=by
 refine Sp.of (n:=180) ⟨_,Tryz.func3,rfl,rfl,rfl,rfl⟩ (Nat.le_of_ble_eq_true rfl) fun Ps As=>Jc (Ja (Jg rfl (J7 (cs:= [_,_]) rfl rfl (by decide) fun b4=>Lq (Jd rfl) (Je (Jf (Jc (Ja (Lq (Jh (o':=0) Un24 rfl ti3 rfl rfl) (Lq (Jj Un3 rfl rfl Jn rfl) (Jg rfl (Jm (Jbl nd) (.cons rfl (.nil)) (by decide) Jx fun u1_2 Lo fs hres=> ?_)))))))))))
 obtain ⟨Rs,A1,c1,hR,rfl,rfl,rfl⟩:=hres
 refine Lq (Jd rfl) (Je (Jf (Jc (Jc ?_))))
 have hl0:0<Rs.length:=by have:=hR.len;omega
 refine Kk (k:=0) Mm0 (by rw [List.getElem?_map,List.getElem?_eq_getElem hl0];rfl) (pt_open _) fun b2 q2 y2 e2=> ?_
 cases e2
 refine Ja (Lq (Jb rfl) (Lq (Jai Un25 rfl) (Lq (Jb rfl) (Kv rfl rfl rfl rfl (Jm (Jay) (.nil) (by decide) (Jl Mm3 Jx) fun u2_3 Lo fs hres=> ?_)))))
 obtain ⟨rfl,rfl,rfl⟩:=hres
 refine Lg rfl rfl rfl rfl (KK rfl) (Lq (JH rfl rfl rfl) (Je (Jf (Jv rfl rfl (Jp (Jf (Jc (Ja (Lq (Jb rfl) (Lq (Jh (o':=1) Un24 rfl Jb4 rfl rfl) (Lq (Jj Un22 rfl rfl (Ji (Jn)) rfl) (Jg rfl (JU (Jam Rs [] hR (some ⟨b2,q2,none⟩) c1 acts B1 cb) (.cons rfl (.cons rfl (.nil))) (by decide) (.z) (Jl Mm3 (Jl Mm4 (Jl Mm2 (Jl Mm1 (Jl Mm5 Jx))))) fun u4_3 Lo fs hres=> ?_)))))))))))))
 obtain ⟨Rs2,G2,hR2,hm2,rfl,rfl,rfl⟩:=hres
 refine Lq (Jd rfl) (Je (Jf (Jc (Jc (Ja (Lq (Jb rfl) (Lq (KK rfl) (Je (Jf (Jv rfl rfl (Jp (Jf (Jc ?_)))))))))))))
 obtain ⟨M0,D0,T0,rfl⟩:=hR2.hd
 refine Kk (k:=0) Mm2 (show _=some M0.d by rw [←hm2];rfl) (pt_open _) fun b7 q7 y7 e7=> ?_
 cases e7
 refine JD (.z) (H4 Mm1 ?_)
 have ok0:DkOk M0 D0:=hR2.ok _ List.mem_cons_self
 have hv0:DV D0:=hR2.dv _ List.mem_cons_self
 have hb0:BdN 2 D0:=hR2.bdn (by decide) List.mem_cons_self 2 (by decide)
 have hvl:=Ku D0.X
 have hvn:=Kl D0.X
 have hxl:=ok0.xl
 clear hm2
 refine Ja (Lq (Jb rfl) (Lq (Kc Un25 EO rfl rfl (by omega) (by omega)) (Lq (Kj (j:=0) Un29 rfl rfl Mm3 rfl rfl) (Lq (Jd rfl) (Je (Jf (Jc (Ja (Lq (Jb rfl) (Lq (JC rfl) (Lq (Jh (o':=_+0) Un42 rfl Yn rfl rfl) (Jg rfl (Kp (YS M0.d M0.h M0.b _ _ M0.B M0.t ok0.wt (by have:=ok0.tl;omega)) (.cons rfl (.nil)) (by decide) (.z) (.s (.s (.s (.z)))) (Jl Mm2 Jx) fun u8_3 Lo fs hres=> ?_)))))))))))))
 obtain ⟨rfl,rfl,rfl⟩:=hres
 rw [ok0.row]
 refine Jg rfl (Jm (Qd (textF D0.X) (by have:=YM D0.X;have:=ok0.xl;omega)) (.cons rfl (.nil)) (by decide) Jx fun u8_4 Lo fs hres=> ?_)
 obtain ⟨b8,c8,rfl,rfl,rfl⟩:=hres
 rw [text_runes hv0.di.made]
 refine Lq (Jd rfl) (Je (Jf (Jc (Ja (Lq (Jb rfl) (Jg rfl (Jm (K8 n 6 (by omega)) (.cons rfl (.cons rfl (.nil))) (by decide) Jx fun u9_1 Lo fs hres=> ?_)))))))
 obtain ⟨w,hw,_,rfl,rfl,rfl⟩:=hres
 refine Lq (Yb (o':=0+w) Un43 ti9 rfl rfl (by omega) (by omega) (by simp)) (Lq (Kj (j:=w) (v:= .string (wordA w)) Un9 rfl rfl Mm10 rfl (Xx hw)) (Lq (Jd rfl) (Je (Jf ?_))))
 refine ZX (α:=DM×DS)
  (fun (M1,D1)=> [(1, .int .i64 p),(2, .int .i64 n),(11, .pointer (some ⟨M1.d,0,none⟩))])
  (fun (M1,D1)=>(dkB M1 D1::rpP M1.b M1.B::hdP M1.h M1.A D1.H.ops.length M1.cap M1.m D1.H.total::mpP M1.m M1.L::mkP M1.L::stP M1.s M1.vu M1.vr::M1.pu::M1.pr::Ps))
  (fun (M1,D1)=>(RdF opD M1.A M1.cap D1.H.ops::AllF M1.L nowF::TrF M1.B M1.t::barF::wordsF::RdF actD B1 cb acts::As))
  (fun (M1,D1)=>DkOk M1 D1∧DV D1∧BdN 1 D1) ?_ ?_
 ·have hwd:=VU hw
  rcases Int.lt_or_le p 0 with hp | hp
  ·refine Ja (Lq (Jb rfl) (Lq (Jb rfl) (Lq (Jb rfl) (Jg rfl (J5 (insert_e M0 D0 ok0 p (wordA w) (by omega)) (.cons rfl (.cons rfl (.cons rfl (.nil)))) (by decide) (.cons (.z) (.cons (.s (.z)) (.cons (.s (.z)) (.cons (.s (.z)) (.cons (.z) (.cons (.z) (.cons (.z) (.cons (.z) .nil)))))))) (Jl Mm9 (Jl Mm1 (Jl Mm2 (Jl Mm3 Jx)))) fun u10_3 Lo fs hres=> ?_)))))
   obtain ⟨e,⟨ep,rfl⟩,rfl,rfl,rfl⟩:=hres
   refine Lq (Jb rfl) (Lq (Jk (vs:= [_,_]) rfl rfl) (Lq (Jk (vs:= [_,_]) rfl rfl) (Jg rfl (Ju (cs:= [_,_,_,_,_,_,_,_,_]) JB rfl (by decide) fun b14=>Jg rfl (Jq (cs':= [_,_,_,_,_,_,_,_,_]) (vs:= [_,_,_,_,_,_,_,_,_]) JB rfl rfl rfl rfl rfl (Nat.le_of_ble_eq_true rfl) (.z) (Lq (Jd rfl) (Je (Jf (Jc (Ja (Lq (Jb rfl) (Lq (XY Un54 rfl rfl) (Lq (Jb rfl) ?_)))))))))))))
   refine Lq (Yg rfl rfl) (Lq (Jb rfl) (Ln rfl rfl rfl (decide_eq_false (by omega)) (Ln rfl rfl rfl (decide_eq_false (by omega)) (Ln rfl rfl rfl (decide_eq_false (by omega)) (Ln rfl rfl rfl (decide_eq_false (by omega)) (Lq (JH rfl (decide_eq_false (by omega)) rfl) (Lq (q_bneq' Un4 rfl rfl) (Je (Jf (Jv rfl rfl (Jp (Jf (Jc (Ja (Lq (Jb rfl) ?_)))))))))))))))
   refine Lq (XY Un54 rfl rfl) (Je (Jf (Jv rfl rfl (Jc (Ja (Lq (Jb rfl) (Lq (JC rfl) (Lq (Jh (o':=_+0) Un42 rfl Yn rfl rfl) (Jg rfl (Kp (YS M0.d M0.h M0.b _ _ M0.B M0.t ok0.wt (by have:=ok0.tl;omega)) (.cons rfl (.nil)) (by decide) (.s (.z)) (.s (.s (.s (.s (.z))))) (Jl Mm3 Jx) fun u17_3 Lo fs hres=> ?_))))))))))
   obtain ⟨rfl,rfl,rfl⟩:=hres
   rw [ok0.row]
   refine Jg rfl (Jm (Qd (textF D0.X) (by have:=YM D0.X;have:=ok0.xl;omega)) (.cons rfl (.nil)) (by decide) Jx fun u17_4 Lo fs hres=> ?_)
   obtain ⟨b109,c109,rfl,rfl,rfl⟩:=hres
   rw [text_runes hv0.di.made]
   refine Lq (Jb rfl) (Jg rfl (Jm (XS _ _ _ _ (Kh D0.X) (Kh D0.X) rfl) (.cons rfl (.cons rfl (.nil))) (by decide) (Jl Mm0 (Jl Mm1 Jx)) fun u17_6 Lo fs hres=> ?_))
   obtain ⟨rfl,rfl,rfl⟩:=hres
   refine Lq (KK rfl) (Je (Jf (Jv rfl rfl (Jp (Ks ?_)))))
   refine ⟨(M0,D0),?_,(.cons rfl (.cons rfl (.cons rfl (.nil _)))),(Sk (Sk (Sd (Sk (Sk (Sk (Sk (Sk (Sk (Sd (Sr))))))))))),(Jl Mm2 (Jl Mm3 (Jl Mm4 Tt10)))⟩
   exact ⟨ok0,hv0,⟨by have:=hb0.n;omega,by have:=hb0.m;omega,by have:=hb0.c;omega⟩⟩
  ·rcases Int.lt_or_le (J3 D0.X) p with hp2 | hp2
   ·refine Ja (Lq (Jb rfl) (Lq (Jb rfl) (Lq (Jb rfl) (Jg rfl (J5 (insert_e M0 D0 ok0 p (wordA w) (by omega)) (.cons rfl (.cons rfl (.cons rfl (.nil)))) (by decide) (.cons (.z) (.cons (.s (.z)) (.cons (.s (.z)) (.cons (.s (.z)) (.cons (.z) (.cons (.z) (.cons (.z) (.cons (.z) .nil)))))))) (Jl Mm9 (Jl Mm1 (Jl Mm2 (Jl Mm3 Jx)))) fun u10_3 Lo fs hres=> ?_)))))
    obtain ⟨e,⟨ep,rfl⟩,rfl,rfl,rfl⟩:=hres
    refine Lq (Jb rfl) (Lq (Jk (vs:= [_,_]) rfl rfl) (Lq (Jk (vs:= [_,_]) rfl rfl) (Jg rfl (Ju (cs:= [_,_,_,_,_,_,_,_,_]) JB rfl (by decide) fun b14=>Jg rfl (Jq (cs':= [_,_,_,_,_,_,_,_,_]) (vs:= [_,_,_,_,_,_,_,_,_]) JB rfl rfl rfl rfl rfl (Nat.le_of_ble_eq_true rfl) (.z) (Lq (Jd rfl) (Je (Jf (Jc (Ja (Lq (Jb rfl) (Lq (XY Un54 rfl rfl) (Lq (Jb rfl) ?_)))))))))))))
    refine Lq (Yg rfl rfl) (Lq (Jb rfl) (Lg rfl rfl rfl (decide_eq_true (by omega)) (Jb rfl) (Lg rfl rfl rfl (decide_eq_true (by omega)) (Jb rfl) (Lg rfl rfl rfl (decide_eq_true (by omega)) (J6 Un30 rfl) (Lg rfl rfl rfl (decide_eq_true (by omega)) (Yt rfl rfl) (Lq (JP rfl (decide_eq_true (by omega)) rfl) (Lq (q_bneq' Un4 rfl rfl) (Je (Jf (Jv rfl (by rw [decide_eq_false (by omega)];rfl) ?_))))))))))
    refine Jp (Jf (Jc (Ja (Lq (Jb rfl) (Lq (XY Un54 rfl rfl) (Je (Jf (Jv rfl rfl (Jc (Ja (Lq (Jb rfl) (Lq (JC rfl) (Lq (Jh (o':=_+0) Un42 rfl Yn rfl rfl) (Jg rfl (Kp (YS M0.d M0.h M0.b _ _ M0.B M0.t ok0.wt (by have:=ok0.tl;omega)) (.cons rfl (.nil)) (by decide) (.s (.z)) (.s (.s (.s (.s (.z))))) (Jl Mm3 Jx) fun u17_3 Lo fs hres=> ?_)))))))))))))))
    obtain ⟨rfl,rfl,rfl⟩:=hres
    rw [ok0.row]
    refine Jg rfl (Jm (Qd (textF D0.X) (by have:=YM D0.X;have:=ok0.xl;omega)) (.cons rfl (.nil)) (by decide) Jx fun u17_4 Lo fs hres=> ?_)
    obtain ⟨b109,c109,rfl,rfl,rfl⟩:=hres
    rw [text_runes hv0.di.made]
    refine Lq (Jb rfl) (Jg rfl (Jm (XS _ _ _ _ (Kh D0.X) (Kh D0.X) rfl) (.cons rfl (.cons rfl (.nil))) (by decide) (Jl Mm0 (Jl Mm1 Jx)) fun u17_6 Lo fs hres=> ?_))
    obtain ⟨rfl,rfl,rfl⟩:=hres
    refine Lq (KK rfl) (Je (Jf (Jv rfl rfl (Jp (Ks ?_)))))
    refine ⟨(M0,D0),?_,(.cons rfl (.cons rfl (.cons rfl (.nil _)))),(Sk (Sk (Sd (Sk (Sk (Sk (Sk (Sk (Sk (Sd (Sr))))))))))),(Jl Mm2 (Jl Mm3 (Jl Mm4 Tt10)))⟩
    exact ⟨ok0,hv0,⟨by have:=hb0.n;omega,by have:=hb0.m;omega,by have:=hb0.c;omega⟩⟩
   ·obtain ⟨pn,rfl⟩:=Int.eq_ofNat_of_zero_le hp
    refine Ja (Lq (Jb rfl) (Lq (Jb rfl) (Lq (Jb rfl) (Jg rfl (J5 (ins_v M0 D0 ok0 hv0 1 hb0 pn (by omega) (wordA w) (by have:=hwd.z;omega) hwd.u hwd.n) (.cons rfl (.cons rfl (.cons rfl (.nil)))) (by decide) (.cons (.z) (.cons (.s (.z)) (.cons (.s (.z)) (.cons (.s (.z)) (.cons (.z) (.cons (.z) (.cons (.z) (.cons (.z) .nil)))))))) (Jl Mm9 (Jl Mm1 (Jl Mm2 (Jl Mm3 Jx)))) fun u10_3 Lo fs hres=> ?_)))))
    obtain ⟨k1,M1,D1,hE1,hI1,hb1,hd1,ok1,rfl,rfl,rfl⟩:=hres
    refine Lq (Jb rfl) (Lq (Jk (vs:= [_,_]) rfl rfl) (Lq (Jk (vs:= [_,_]) rfl rfl) (Jg rfl (Ju (cs:= [_,_,_,_,_,_,_,_,_]) JB rfl (by decide) fun b14=>Jg rfl (Jq (cs':= [_,_,_,_,_,_,_,_,_]) (vs:= [_,_,_,_,_,_,_,_,_]) JB rfl rfl rfl rfl rfl (Nat.le_of_ble_eq_true rfl) (.z) (Lq (Jd rfl) (Je (Jf (Jc ?_)))))))))
    rw [←hd1]
    have hv1:=hI1.dv
    refine Ja (Lq (Jb rfl) (Lq (Qr Un54 rfl) (Lq (Jb rfl) (Lq (Yg rfl rfl) (Lq (Jb rfl) (Lg rfl rfl rfl (decide_eq_true (by omega)) (Jb rfl) (Lg rfl rfl rfl (decide_eq_true (by omega)) (Jb rfl) (Lg rfl rfl rfl (decide_eq_true (by omega)) (J6 Un30 rfl) (Lg rfl rfl rfl (decide_eq_true (by omega)) (Yt rfl rfl) ?_)))))))))
    refine Lq (JP rfl (decide_eq_true (by omega)) rfl) (Lq (q_bneq' Un4 rfl rfl) (Je (Jf (Jv rfl (by rw [decide_eq_true (by omega)];rfl) (Jp (Jf (Jc (Ja (Lq (Jb rfl) (Lq (Qr Un54 rfl) (Je (Jf (J2 rfl rfl ?_)))))))))))))
    refine XJ (α:=Value×Part×List (List Value)×List (List Value)×List (List Value))
     (fun (v,pw,s1,s2,s3)=> [(1, .int .i64 (pn:Int)),(2, .int .i64 n),(11, .pointer (some ⟨M1.d,0,none⟩)),(13, .string (wordA w)),(16,v)])
     (fun (v,pw,s1,s2,s3)=>(pw::dkB M1 D1::hdP M1.h M1.A D1.H.ops.length M1.cap M1.m D1.H.total::mpP M1.m M1.L::mkP M1.L::rpP M1.b M1.B::stP M1.s M1.vu M1.vr::M1.pu::M1.pr::Ps))
     (fun (v,pw,s1,s2,s3)=>(RepsF runeD ((Kh D0.X).take pn) s1::RepsF runeD (JW (wordA w)) s2::RepsF runeD ((Kh D0.X).drop pn) s3::RdF opD M1.A M1.cap D1.H.ops::AllF M1.L nowF::TrF M1.B M1.t::barF::wordsF::RdF actD B1 cb acts::As))
     (fun (v,pw,s1,s2,s3)=>Row 21 1 v ((Kh D0.X).take pn++(JW (wordA w)++(Kh D0.X).drop pn)).length (s1++(s2++s3)).flatten pw) ?_ ?_
    ·refine VT Mm3 fun hcap=>QS pn Mm3 (by omega) (QQ pn Mm4 (by omega) ?_)
     have hlt:((Kh D0.X).take pn).length≤60000:=by rw [List.length_take];omega
     have hld:((Kh D0.X).drop pn).length≤60000:=by rw [List.length_drop];omega
     have hlw:(JW (wordA w)).length≤100:=Nat.le_trans (Vj _) hwd.z
     refine JI _ _ [] (.c 0 0 (.c 1 0 (.c 2 0 (.c 4 0 (.c 7 0 (.c 8 0 (.c 9 0 (.c 3 2 (.c 5 2 (.c 6 2 (.c 10 2 (.c 11 0 .nil)))))))))))) mixed (fun _ _ _ _ h=>h) (Sk (Sk (Sk (Sk (Sk (Sk (Sk (Sk (Sk (Sk (Sr))))))))))) (fun _ h=>h) (by kernel_rfl) (by decide) fun ws Z0=>Qe rfl (Jb rfl) (Qe rfl (Jb rfl) (Qe rfl (Qu (m:=((Kh D0.X).take pn).length) (by rw [List.length_take];omega) Un30 QB rfl rfl (by omega) (by omega)) (Qe rfl (Jb rfl) (Qe rfl (Jb rfl) (Qe rfl (Jb rfl) ?_)))))
     refine Qe rfl (Qt (j:=pn) (m:=((Kh D0.X).drop pn).length) (by omega) (by rw [List.length_drop]) Un30 QB rfl rfl (by omega) (by omega)) (Gn (Jy rfl rfl (K0 (e:=runeD) (ys:=_) Un30 QB rfl (by decide) rfl rfl (Row.nil _ _) Mm2 (by omega) (by unfold maxLen;omega) (by decide) (List.Perm.refl _) fun v70 p70 cs70 hr70=> ?_)))
     refine ⟨⟨(Sd (Sk (Sk (Sk (Sk (Sk (Sk (Sk (Sk (Sk (Sk (Sr)))))))))))),Mm1⟩,?_⟩
     refine Jy rfl rfl (Jm (Qd (wordA w) (by have:=hwd.z;omega)) (.cons rfl (.nil)) (by decide) Jx fun u14_5 Lo fs hres=> ?_)
     obtain ⟨b72,c72,rfl,rfl,rfl⟩:=hres
     refine ⟨⟨(Sd (Sk (Sk (Sk (Sk (Sk (Sk (Sk (Sk (Sk (Sk (Sr)))))))))))),Mm2⟩,?_⟩
     refine Jy rfl rfl (K0 (e:=runeD) (ys:=_) Un30 QB rfl (by decide) rfl rfl hr70 Mm0 (by omega) (by unfold maxLen;omega) (by decide) (List.Perm.refl _) fun v73 p73 cs73 hr73=> ?_)
     refine ⟨⟨(Sd (Sk (Sk (Sk (Sk (Sk (Sk (Sk (Sk (Sk (Sk (Sr)))))))))))),Mm3⟩,?_⟩
     refine Jy rfl rfl (K0 (e:=runeD) (ys:=_) Un30 QB rfl (by decide) rfl rfl hr73 Mm4 (by omega) (by unfold maxLen;omega) (by decide) (List.Perm.refl _) fun v77 p77 cs77 hr77=> ?_)
     refine ⟨⟨(Sd (Sk (Sk (Sk (Sk (Sk (Sk (Sk (Sk (Sk (Sk (Sr)))))))))))),Mm4⟩,?_⟩
     refine Qe rfl (Jd rfl) (JL (JK (Ks ?_)))
     refine ⟨(v77,p77,cs70,cs73,cs77),?_,(.cons rfl (.cons rfl (.cons rfl (.cons rfl (.cons rfl (.nil _)))))),(Sk (Sd (Sk (Sk (Sk (Sk (Sk (Sk (Sk (Sk (Sd (Sr)))))))))))),(Jl Mm3 (Jl Mm1 (Jl Mm0 (Jl Mm7 (Jl Mm8 (Jl Mm9 Tt19))))))⟩
     show Row _ _ _ ((Kh D0.X).take pn++(JW (wordA w)++(Kh D0.X).drop pn)).length (cs70++(cs73++cs77)).flatten _
     rw [show ((Kh D0.X).take pn++(JW (wordA w)++(Kh D0.X).drop pn)).length=0+((Kh D0.X).take pn).length+(JW (wordA w)).length+((Kh D0.X).drop pn).length by simp only [List.length_append];omega,List.flatten_append,List.flatten_append,←List.append_assoc]
     exact hr77
    ·rintro ⟨v,pw,s1,s2,s3⟩ hrow
     have hrow:Row 21 1 v ((Kh D0.X).take pn++(JW (wordA w)++(Kh D0.X).drop pn)).length (s1++(s2++s3)).flatten pw:=hrow
     refine Jc (J9 (A:=RepsF runeD ((Kh D0.X).take pn++(JW (wordA w)++(Kh D0.X).drop pn)) (s1++(s2++s3))) (fun Z w hs=>Reps.append (hs.facts _ Mm0) (Reps.append (hs.facts _ Mm1) (hs.facts _ Mm2))) (KF (e:=runeD) (xs:=((Kh D0.X).take pn++(JW (wordA w)++(Kh D0.X).drop pn))) (css:=(s1++(s2++s3))) hrow (.z) rfl Mm0 fun A15 c15 e15=> ?_))
     cases e15
     have hlw:(JW (wordA w)).length≤100:=Nat.le_trans (Vj _) hwd.z
     have hwl:J3 D1.X=((Kh D0.X).take pn++(JW (wordA w)++(Kh D0.X).drop pn)).length:=by rw [←Ku,hI1.vis]
     refine Ja (Lq (Jb rfl) (Lq (JC rfl) (Lq (Jh (o':=_+0) Un42 rfl Yn rfl rfl) (Jg rfl (Kp (YS M1.d M1.h M1.b _ _ M1.B M1.t ok1.wt (by have:=ok1.tl;omega)) (.cons rfl (.nil)) (by decide) (.z) (.s (.s (.s (.z)))) (Jl Mm7 Jx) fun u15_3 Lo fs hres=> ?_)))))
     obtain ⟨rfl,rfl,rfl⟩:=hres
     rw [ok1.row]
     refine Jg rfl (Jm (Qd (textF D1.X) (by have:=YM D1.X;have:=ok1.xl;omega)) (.cons rfl (.nil)) (by decide) Jx fun u15_4 Lo fs hres=> ?_)
     obtain ⟨b82,c82,rfl,rfl,rfl⟩:=hres
     rw [text_runes hv1.di.made]
     refine Lq (Jb rfl) (Jg rfl (Jm (XS _ _ _ _ (Kh D1.X) ((Kh D0.X).take pn++(JW (wordA w)++(Kh D0.X).drop pn)) hI1.vis) (.cons rfl (.cons rfl (.nil))) (by decide) (Jl Mm0 (Jl Mm1 Jx)) fun u15_6 Lo fs hres=> ?_))
     obtain ⟨rfl,rfl,rfl⟩:=hres
     refine Lq (KK rfl) (Lq (Jb rfl) (Lg rfl rfl rfl rfl (Jb rfl) (Kv rfl rfl rfl rfl (J5 (Ga M1 D1 ok1) (.cons rfl (.nil)) (by decide) (.cons (.z) (.cons (.s (.z)) (.cons (.s (.z)) (.cons (.s (.z)) (.cons (.z) (.cons (.z) (.cons (.z) (.cons (.z) .nil)))))))) (Jl Mm9 (Jl Mm6 (Jl Mm7 (Jl Mm8 Jx)))) fun u15_10 Lo fs hres=> ?_))))
     obtain ⟨rfl,rfl,rfl⟩:=hres
     rw [hI1.crt]
     refine Lg rfl rfl rfl rfl (Jb rfl) (Lg rfl rfl rfl rfl (Jb rfl) (Kv rfl rfl rfl rfl (Jm (Qd (wordA w) (by have:=hwd.z;omega)) (.cons rfl (.nil)) (by decide) Jx fun u15_13 Lo fs hres=> ?_)))
     obtain ⟨b91,c91,rfl,rfl,rfl⟩:=hres
     refine Lg rfl rfl rfl rfl (J6 Un30 rfl) (Lg rfl rfl rfl rfl (JV rfl rfl (wr64 (by omega)) (c:=((pn+(JW (wordA w)).length:Nat):Int))) (Lg rfl rfl rfl rfl (Ky rfl rfl) (Lq (JH rfl rfl rfl) (Lq (Jb rfl) (Lg rfl rfl rfl (by simp) (Jb rfl) (Lg rfl rfl rfl (by simp) (JC rfl) (Lg rfl rfl rfl (by simp) (Jh (o':=_+0) Un42 rfl Yn rfl rfl) (Kv rfl rfl rfl (by simp) (Kp (Y2 M1.d M1.h M1.b _ _ M1.B M1.t ok1.wt) (.cons rfl (.nil)) (by decide) (.z) (.s (.s (.s (.z)))) (Jl Mm9 Jx) fun u15_22 Lo fs hres=> ?_)))))))))
     obtain ⟨rfl,rfl,rfl⟩:=hres
     rw [ok1.row,hwl]
     refine Lg rfl rfl rfl (by simp) (Jb rfl) (Lg rfl rfl rfl (by simp) (J6 Un30 rfl) (Lg rfl rfl rfl (by simp) (Ky rfl rfl) (Lq (JH rfl (by simp) rfl) (Je (Jf (Jv rfl (by simp) (Jp (Ks ?_))))))))
     refine ⟨(M1,D1),?_,(.cons rfl (.cons rfl (.cons rfl (.nil _)))),(Sk (Sk (Sk (Sk (Sk (Sk (Sk (Sk (Sr))))))))),Tt7⟩
     exact ⟨ok1,hv1,hb1⟩
 ·rintro ⟨M1,D1⟩ ⟨ok1,hv1,hb1⟩
  dsimp only
  have hvl1:=Ku D1.X
  have hvn1:=Kl D1.X
  have hxl1:=DkOk.xl ok1
  refine Jc (Ja (Lq (Jb rfl) (Lq (JC rfl) (Lq (Jh (o':=_+0) Un42 rfl Yn rfl rfl) (Jg rfl (Kp (YS M1.d M1.h M1.b _ _ M1.B M1.t ok1.wt (by have:=ok1.tl;omega)) (.cons rfl (.nil)) (by decide) (.z) (.z) (Jl Mm2 Jx) fun u19_3 Lo fs hres=> ?_))))))
  obtain ⟨rfl,rfl,rfl⟩:=hres
  rw [ok1.row]
  refine Jg rfl (Jm (Qd (textF D1.X) (by have:=YM D1.X;have:=ok1.xl;omega)) (.cons rfl (.nil)) (by decide) Jx fun u19_4 Lo fs hres=> ?_)
  obtain ⟨b19,c19,rfl,rfl,rfl⟩:=hres
  rw [text_runes hv1.di.made]
  refine Lq (Jd rfl) (Je (Jf (Jc ?_)))
  by_cases hq:0≤p∧0<n∧p+n≤J3 D1.X
  ·obtain ⟨pn,rfl⟩:=Int.eq_ofNat_of_zero_le hq.1
   obtain ⟨nn,rfl⟩:=Int.eq_ofNat_of_zero_le (Int.le_of_lt hq.2.1)
   refine Ja (Lq (Jb rfl) (Lq (Jb rfl) (Lq (Jb rfl) (Jg rfl (J5 (del_v M1 D1 ok1 hv1 0 hb1 pn nn (by omega) (by omega)) (.cons rfl (.cons rfl (.cons rfl (.nil)))) (by decide) (.cons (.z) (.cons (.s (.z)) (.cons (.s (.z)) (.cons (.s (.z)) (.cons (.z) (.cons (.z) (.cons (.z) (.cons (.z) .nil)))))))) (Jl Mm4 (Jl Mm1 (Jl Mm2 (Jl Mm3 Jx)))) fun u20_3 Lo fs hres=> ?_)))))
   obtain ⟨xs2,M2,D2,A2,c2,hE2,hI2,hb2,hd2,ok2,rfl,rfl,rfl⟩:=hres
   refine Lq (Jb rfl) (Lq (Jk (vs:= [_,_]) rfl rfl) (Lq (Jk (vs:= [_,_]) rfl rfl) (Jg rfl (Ju (cs:= [_,_,_,_,_,_,_,_,_]) JB rfl (by decide) fun b17=>Jg rfl (Jq (cs':= [_,_,_,_,_,_,_,_,_]) (vs:= [_,_,_,_,_,_,_,_,_]) JB rfl rfl rfl rfl rfl (Nat.le_of_ble_eq_true rfl) (.z) (Lq (Jd rfl) (Je (Jf (Jc (Jc (Ja (Lq (Jb rfl) (Lq (Qr Un54 rfl) (Lq (Jb rfl) ?_))))))))))))))
   refine Lq (Yg rfl rfl) (Lq (Jb rfl) (Lg rfl rfl rfl (decide_eq_true (by omega)) (Jb rfl) (Lg rfl rfl rfl (decide_eq_true (by omega)) (Kf rfl rfl) (Lq (JP rfl (decide_eq_true (by omega)) rfl) (Lq (Jb rfl) (Lg rfl rfl rfl (decide_eq_true (by omega)) (Jb rfl) (Lg rfl rfl rfl (decide_eq_true (by omega)) (Jb rfl) (Lg rfl rfl rfl (decide_eq_true (by omega)) (J6 Un30 rfl) (Lg rfl rfl rfl (decide_eq_true (by omega)) (Yt rfl rfl) ?_)))))))))
   refine Lq (JP rfl (decide_eq_true (by omega)) rfl) (Lq (Jb rfl) (Lg rfl rfl rfl (decide_eq_true (by omega)) (Jb rfl) (Lg rfl rfl rfl (decide_eq_true (by omega)) (Jb rfl) (Lg rfl rfl rfl (decide_eq_true (by omega)) (J6 Un30 rfl) (Lg rfl rfl rfl (decide_eq_true (by omega)) (Jb rfl) (Lg rfl rfl rfl (decide_eq_true (by omega)) (KJ rfl rfl (wr64 (by omega)) (c:=((Kh D1.X).length:Int)-pn)) (Lg rfl rfl rfl (decide_eq_true (by omega)) (Yt rfl rfl) (Lq (JP rfl (decide_eq_true (by omega)) rfl) (Lq (q_bneq' Un4 rfl rfl) ?_)))))))))
   refine Je (Jf (Jv rfl (by rw [decide_eq_true (by omega)];rfl) (Jp (Jf (Jc (Jc (Ja (Lq (Jb rfl) (Lq (K4 Un54 rfl) (Je (Jf (Jv rfl rfl (Jp (Jf (Jc (VT Mm4 fun hcap=>QS pn Mm4 (by omega) (QQ (pn+nn) Mm5 (by omega) ?_)))))))))))))))))
   have hlt:((Kh D1.X).take pn).length≤60000:=by rw [List.length_take];omega
   have hld:((Kh D1.X).drop (pn+nn)).length≤60000:=by rw [List.length_drop];omega
   refine JI _ _ [] (.c 0 0 (.c 1 0 (.c 2 0 (.c 4 0 (.c 5 0 (.c 6 0 (.c 7 0 (.c 8 0 (.c 3 2 (.c 9 2 (.c 10 0 .nil))))))))))) mixed (fun _ _ _ _ h=>h) (Sk (Sk (Sk (Sk (Sk (Sk (Sk (Sk (Sk (Sr)))))))))) (fun _ h=>h) (by kernel_rfl) (by decide) fun ws Z0=>Qe rfl (Jb rfl) (Qe rfl (Jb rfl) (Qe rfl (Qu (m:=((Kh D1.X).take pn).length) (by rw [List.length_take];omega) Un30 QB rfl rfl (by omega) (by omega)) (Qe rfl (Jb rfl) (Qe rfl (Jb rfl) (Qe rfl (Jb rfl) (Qe rfl (JV rfl rfl (wr64 (by omega)) (c:=((pn+nn:Nat):Int))) ?_))))))
   refine Qe rfl (Qt (j:=(pn+nn)) (m:=((Kh D1.X).drop (pn+nn)).length) (by omega) (by rw [List.length_drop]) Un30 QB rfl rfl (by omega) (by omega)) (Gn (Jy rfl rfl (K0 (e:=runeD) (ys:=_) Un30 QB rfl (by decide) rfl rfl (Row.nil _ _) Mm2 (by omega) (by unfold maxLen;omega) (by decide) (List.Perm.refl _) fun v160 p160 cs160 hr160=> ?_)))
   refine ⟨⟨(Sd (Sk (Sk (Sk (Sk (Sk (Sk (Sk (Sk (Sk (Sr))))))))))),Mm1⟩,?_⟩
   refine Jy rfl rfl (K0 (e:=runeD) (ys:=_) Un30 QB rfl (by decide) rfl rfl hr160 Mm2 (by omega) (by unfold maxLen;omega) (by decide) (List.Perm.refl _) fun v166 p166 cs166 hr166=> ?_)
   refine ⟨⟨(Sd (Sk (Sk (Sk (Sk (Sk (Sk (Sk (Sk (Sk (Sr))))))))))),Mm2⟩,?_⟩
   refine Qe rfl (Jd rfl) (JL (JK (Jf (Jc ?_))))
   have hr26:Row 21 1 v166 ((Kh D1.X).take pn++(Kh D1.X).drop (pn+nn)).length (cs160++cs166).flatten p166:=by
    rw [show ((Kh D1.X).take pn++(Kh D1.X).drop (pn+nn)).length=0+((Kh D1.X).take pn).length+((Kh D1.X).drop (pn+nn)).length by simp only [List.length_append];omega,List.flatten_append]
    exact hr166
   rw [←hd2]
   refine J9 (A:=RepsF runeD ((Kh D1.X).take pn++(Kh D1.X).drop (pn+nn)) (cs160++cs166)) (fun Z w hs=>Reps.append (hs.facts _ Mm1) (hs.facts _ Mm0)) (KF (e:=runeD) (xs:=((Kh D1.X).take pn++(Kh D1.X).drop (pn+nn))) (css:=(cs160++cs166)) hr26 (.z) rfl Mm0 fun A26 c26 e26=> ?_)
   cases e26
   have hv2:=hI2.dv
   refine Ja (Lq (Jb rfl) (Lq (JC rfl) (Lq (Jh (o':=_+0) Un42 rfl Yn rfl rfl) (Jg rfl (Kp (YS M2.d M2.h M2.b _ _ M2.B M2.t ok2.wt (by have:=ok2.tl;omega)) (.cons rfl (.nil)) (by decide) (.s (.z)) (.s (.s (.s (.s (.z))))) (Jl Mm9 Jx) fun u26_3 Lo fs hres=> ?_)))))
   obtain ⟨rfl,rfl,rfl⟩:=hres
   rw [ok2.row]
   refine Jg rfl (Jm (Qd (textF D2.X) (by have:=YM D2.X;have:=ok2.xl;omega)) (.cons rfl (.nil)) (by decide) Jx fun u26_4 Lo fs hres=> ?_)
   obtain ⟨b27,c27,rfl,rfl,rfl⟩:=hres
   rw [text_runes hv2.di.made]
   refine Lq (Jb rfl) (Jg rfl (Jm (XS _ _ _ _ (Kh D2.X) ((Kh D1.X).take pn++(Kh D1.X).drop (pn+nn)) hI2.vis) (.cons rfl (.cons rfl (.nil))) (by decide) (Jl Mm0 (Jl Mm1 Jx)) fun u26_6 Lo fs hres=> ?_))
   obtain ⟨rfl,rfl,rfl⟩:=hres
   refine Lq (Jb rfl) (Lg rfl rfl rfl rfl (Jb rfl) (Kv rfl rfl rfl rfl (J5 (Ga M2 D2 ok2) (.cons rfl (.nil)) (by decide) (.cons (.z) (.cons (.s (.s (.z))) (.cons (.s (.s (.z))) (.cons (.s (.s (.z))) (.cons (.z) (.cons (.s (.z)) (.cons (.s (.z)) (.cons (.s (.z)) .nil)))))))) (Jl Mm16 (Jl Mm8 (Jl Mm9 (Jl Mm10 Jx)))) fun u26_9 Lo fs hres=> ?_)))
   obtain ⟨rfl,rfl,rfl⟩:=hres
   rw [hI2.crt]
   refine Lg rfl rfl rfl rfl (Jb rfl) (Lg rfl rfl rfl rfl (Kg rfl rfl) (Lq (JP rfl rfl rfl) (Lq (Jd rfl) (Je (Jf (Jo ?_))))))
   refine ⟨_,[],[],fun Z w hs=> .tmp rfl (.nil),?_,fun Z w hs=>hs.out (Sd (Sd (Sd (Sd (Sd (Sd (Sd (Sd (Sd (Sr)))))))))) Tt16⟩
   first | exact ⟨rfl,rfl,rfl⟩ | exact ⟨congrArg Value.bool (beq_self_eq_true (pn:Int)),rfl,rfl⟩
  ·refine Ja (Lq (Jb rfl) (Lq (Jb rfl) (Lq (Jb rfl) (Jg rfl (J5 (del_x M1 D1 ok1 p n hq) (.cons rfl (.cons rfl (.cons rfl (.nil)))) (by decide) (.cons (.z) (.cons (.s (.z)) (.cons (.s (.z)) (.cons (.s (.z)) (.cons (.z) (.cons (.z) (.cons (.z) (.cons (.z) .nil)))))))) (Jl Mm4 (Jl Mm1 (Jl Mm2 (Jl Mm3 Jx)))) fun u20_3 Lo fs hres=> ?_)))))
   obtain ⟨e,⟨ep,rfl⟩,rfl,rfl,rfl⟩:=hres
   refine Lq (Jb rfl) (Lq (Jk (vs:= [_,_]) rfl rfl) (Lq (Jk (vs:= [_,_]) rfl rfl) (Jg rfl (Ju (cs:= [_,_,_,_,_,_,_,_,_]) JB rfl (by decide) fun b17=>Jg rfl (Jq (cs':= [_,_,_,_,_,_,_,_,_]) (vs:= [_,_,_,_,_,_,_,_,_]) JB rfl rfl rfl rfl rfl (Nat.le_of_ble_eq_true rfl) (.z) (Lq (Jd rfl) (Je (Jf ?_))))))))
   refine XJ (α:=Unit)
    (fun _=> [(11, .pointer (some ⟨M1.d,0,none⟩)),(12, .slice (some ⟨b19,0,none⟩) (Kh D1.X).length c19),(18, .iface 116 (.pointer (some ⟨ep,0,none⟩)))])
    (fun _=>(dkB M1 D1::hdP M1.h M1.A D1.H.ops.length M1.cap M1.m D1.H.total::mpP M1.m M1.L::mkP M1.L::rpP M1.b M1.B::stP M1.s M1.vu M1.vr::M1.pu::M1.pr::Ps))
    (fun _=>(RdF runeD (some ⟨b19,0,none⟩) c19 (Kh D1.X)::RdF opD M1.A M1.cap D1.H.ops::AllF M1.L nowF::TrF M1.B M1.t::barF::wordsF::RdF actD B1 cb acts::As))
    (fun _=>True) ?_ ?_
   ·refine Jc (Ja (Lq (Jb rfl) (Lq (XY Un54 rfl rfl) (Lq (Jb rfl) (Lq (Yg rfl rfl) (Lq (Jb rfl) (J4 (t:=129) rfl (fun g129=> ?_) (fun g129=> ?_))))))))
    ·refine Lg rfl rfl rfl g129 (Jb rfl) (Lg rfl rfl rfl g129 (Kf rfl rfl) (Lq (JP rfl g129 rfl) (Lq (Jb rfl) (J4 (t:=133) rfl (fun g133=> ?_) (fun g133=> ?_)))))
     ·refine Lg rfl rfl rfl g133 (Jb rfl) (Lg rfl rfl rfl g133 (Jb rfl) (Lg rfl rfl rfl g133 (J6 Un30 rfl) (Lg rfl rfl rfl g133 (Yt rfl rfl) (Lq (JP rfl g133 rfl) (Lq (Jb rfl) (J4 (t:=139) rfl (fun g139=> ?_) (fun g139=> ?_)))))))
      ·refine Lg rfl rfl rfl g139 (Jb rfl) (Lg rfl rfl rfl g139 (Jb rfl) (Lg rfl rfl rfl g139 (J6 Un30 rfl) (Lg rfl rfl rfl g139 (Jb rfl) (Lg rfl rfl rfl g139 (KJ rfl rfl (wr64 (by have h1:=g129;have h2:=g133;have h3:=g139;simp only [decide_eq_true_eq] at h1 h2 h3;omega)) (c:=((Kh D1.X).length:Int)-p)) (Lg rfl rfl rfl g139 (Yt rfl rfl) (Lq (JP rfl g139 rfl) (Lq (q_bneq' Un4 rfl rfl) (Je (Jf (Jv rfl (by first | rfl | (rw [decide_eq_false (by have h1:=g129;have h2:=g133;have h3:=g139;simp only [decide_eq_true_eq] at h1 h2 h3;omega)];rfl)) ?_))))))))))
       refine Jp (Ks ?_)
       refine ⟨(),?_,(.cons rfl (.cons rfl (.cons rfl (.nil _)))),(Sd (Sk (Sk (Sk (Sk (Sk (Sk (Sk (Sk (Sr)))))))))),(fun _ h=>h)⟩
       trivial
      ·refine Ln rfl rfl rfl g139 (Ln rfl rfl rfl g139 (Ln rfl rfl rfl g139 (Ln rfl rfl rfl g139 (Ln rfl rfl rfl g139 (Ln rfl rfl rfl g139 (Lq (JH rfl g139 rfl) (Lq (q_bneq' Un4 rfl rfl) (Je (Jf (Jv rfl (by first | rfl | (rw [decide_eq_false (by have h1:=g129;have h2:=g133;have h3:=g139;simp only [decide_eq_true_eq] at h1 h2 h3;omega)];rfl)) ?_))))))))))
       refine Jp (Ks ?_)
       refine ⟨(),?_,(.cons rfl (.cons rfl (.cons rfl (.nil _)))),(Sd (Sk (Sk (Sk (Sk (Sk (Sk (Sk (Sk (Sr)))))))))),(fun _ h=>h)⟩
       trivial
     ·refine Ln rfl rfl rfl g133 (Ln rfl rfl rfl g133 (Ln rfl rfl rfl g133 (Ln rfl rfl rfl g133 (Lq (JH rfl g133 rfl) (Lq (Jb rfl) (Ln rfl rfl rfl rfl (Ln rfl rfl rfl rfl (Ln rfl rfl rfl rfl (Ln rfl rfl rfl rfl ?_)))))))))
      refine Ln rfl rfl rfl rfl (Ln rfl rfl rfl rfl (Lq (JH rfl rfl rfl) (Lq (q_bneq' Un4 rfl rfl) (Je (Jf (Jv rfl (by first | rfl | (rw [decide_eq_false (by have h1:=g129;have h2:=g133;have h3:=g139;simp only [decide_eq_true_eq] at h1 h2 h3;omega)];rfl)) (Jp (Ks ?_))))))))
      refine ⟨(),?_,(.cons rfl (.cons rfl (.cons rfl (.nil _)))),(Sd (Sk (Sk (Sk (Sk (Sk (Sk (Sk (Sk (Sr)))))))))),(fun _ h=>h)⟩
      trivial
    ·refine Ln rfl rfl rfl g129 (Ln rfl rfl rfl g129 (Lq (JH rfl g129 rfl) (Lq (Jb rfl) (Ln rfl rfl rfl rfl (Ln rfl rfl rfl rfl (Ln rfl rfl rfl rfl (Ln rfl rfl rfl rfl (Lq (JH rfl rfl rfl) (Lq (Jb rfl) ?_)))))))))
     refine Ln rfl rfl rfl rfl (Ln rfl rfl rfl rfl (Ln rfl rfl rfl rfl (Ln rfl rfl rfl rfl (Ln rfl rfl rfl rfl (Ln rfl rfl rfl rfl (Lq (JH rfl rfl rfl) (Lq (q_bneq' Un4 rfl rfl) (Je (Jf (Jv rfl (by first | rfl | (rw [decide_eq_false (by have h1:=g129;have h2:=g133;have h3:=g139;simp only [decide_eq_true_eq] at h1 h2 h3;omega)];rfl)) ?_))))))))))
     refine Jp (Ks ?_)
     refine ⟨(),?_,(.cons rfl (.cons rfl (.cons rfl (.nil _)))),(Sd (Sk (Sk (Sk (Sk (Sk (Sk (Sk (Sk (Sr)))))))))),(fun _ h=>h)⟩
     trivial
   ·rintro _-
    refine Jc (Jc (Ja (Lq (Jb rfl) (Lq (Qg Un54 rfl rfl) (Je (Jf (J2 rfl rfl (Jc (Ja (Lq (Jb rfl) (Lq (JC rfl) (Lq (Jh (o':=_+0) Un42 rfl Yn rfl rfl) (Jg rfl (Kp (YS M1.d M1.h M1.b _ _ M1.B M1.t ok1.wt (by have:=ok1.tl;omega)) (.cons rfl (.nil)) (by decide) (.z) (.s (.s (.s (.z)))) (Jl Mm3 Jx) fun u24_3 Lo fs hres=> ?_))))))))))))))
    obtain ⟨rfl,rfl,rfl⟩:=hres
    rw [ok1.row]
    refine Jg rfl (Jm (Qd (textF D1.X) (by have:=YM D1.X;have:=ok1.xl;omega)) (.cons rfl (.nil)) (by decide) Jx fun u24_4 Lo fs hres=> ?_)
    obtain ⟨b24,c24,rfl,rfl,rfl⟩:=hres
    rw [text_runes hv1.di.made]
    refine Lq (Jb rfl) (Jg rfl (Jm (XS _ _ _ _ (Kh D1.X) (Kh D1.X) rfl) (.cons rfl (.cons rfl (.nil))) (by decide) (Jl Mm0 (Jl Mm1 Jx)) fun u24_6 Lo fs hres=> ?_))
    obtain ⟨rfl,rfl,rfl⟩:=hres
    refine Lq (Jd rfl) (Je (Jf (Jo (Js ?_))))
    refine ⟨_,[],[],fun Z w hs=> .tmp rfl (.nil),?_,fun Z w hs=>hs.out (Sd (Sd (Sd (Sd (Sd (Sd (Sd (Sd (Sr))))))))) Tt5⟩
    first | exact ⟨rfl,rfl,rfl⟩ | exact ⟨congrArg Value.bool (beq_self_eq_true (pn:Int)),rfl,rfl⟩
end Go.Proofs.YtgedhdmpiciikaaGreatDoor
set_option maxRecDepth 100000
namespace Go.Proofs.YtgedhdmpiciikaaGreatDoor.deskEdits
open Go Go.GW Go.ChangeShapes Go.WideShapes Go.ChangeAt Go.RowKit
theorem own:ownKnob Tryz.prog.godebug=none:=by kernel_rfl
theorem contract (H:Type) (enc:TypeId×Value→H) (W:World) (base:Nat) (args:Array Value) (ds gs:List (DataW H)) (before:List MemPlace)
  (hval: ∀(j:Nat) t v,Tryz.f3.params[j]? =some t→args[j]? =some v→Value.okWide Tryz.prog W .any base t v)
  (hW:DataW.Whole enc Tryz.prog Tryz.f3.params.toList Rows.deskEditsSpec.vars false W args.toList ds gs before) (hL:laidMetH Tryz.prog Rows.deskEditsRow.laid W):
  Calls Tryz.prog 3 args W fun e W'=> ∃v,e= .returned v∧Rows.deskEditsSpec.post enc Tryz.prog Tryz.f3 false true false false W args v W':=by
 have hW':=hW
 have hlt:=hW.lt
 obtain ⟨p,q,hA0,hV,rfl,hfz,hnd⟩:=hW
 have hA:DataW.TrodAll enc Tryz.prog W 0 (fun _=>true) true Tryz.f3.params.toList args.toList ds p:=hA0
 rw [Tryz.params3] at hA hval
 obtain ⟨v0,v1,v2,v3,d0,d1,d2,d3,p0,p1,p2,p3,rfl,rfl,rfl,t0,t1,t2,t3⟩:=trodAll_four hA
 obtain ⟨rfl,rfl⟩:=trodVars_none hV
 clear hA0
 obtain ⟨n0,A0,c0,as0,rfl,hR0⟩:=room_arg (hval 0 24 v0 rfl rfl) t0
 obtain ⟨z1,rfl, -, -,wz1⟩:=open_int Un3 (hval 1 3 v1 rfl rfl) t1
 obtain ⟨z2,rfl, -, -,wz2⟩:=open_int Un3 (hval 2 3 v2 rfl rfl) t2
 have hb:=Jao hL
 have hs:=Jbx (W:=W) (As:= [barF,wordsF,RdF actD A0 c0 as0]) (fun A hA=>by
  simp only [List.mem_cons,List.not_mem_nil,or_false] at hA
  rcases hA with rfl | rfl | rfl
  ·exact ⟨hb.1.2,hb.1.1⟩
  ·exact ⟨hb.2.2,hb.2.1⟩
  ·exact hR0)
 refine ((Jar n0 A0 c0 as0 z1 z2 v3).calls _ W [] [NearF W (fun b=>b<W.heap.size)] hs).mono ?_
 rintro e W' ⟨v,rfl,Z',Lo,fs,⟨rfl,rfl,rfl⟩,h2⟩
 have hk:=h2.facts (NearF W (fun b=>b<W.heap.size)) (by simp)
 have hsame: ∀x∈p0++p1++p2++p3++ [],W.sameAt W' x:=fun x hx=>Jag hk (hlt x hx)
 exact ⟨_,rfl,post_plain (pa:=p0++p1++p2++p3) (pv:= []) hW' (fun _ _ _=>trodAll_cons_mk (shut_bool Un4 _) trodAll_mk0) (fun sp hsp=>by simp only [List.append_assoc];exact trodAll_mk4 (WideElems.Trod_stays laidOk (by kernel_rfl) (of_decide_eq_true (by kernel_rfl)) t0 (fun x hx=>hsame x (by simp [hx])) (fun x hx=>hsp x (by simp [hx]))) (WideElems.Trod_stays laidOk (by kernel_rfl) (of_decide_eq_true (by kernel_rfl)) t1 (fun x hx=>hsame x (by simp [hx])) (fun x hx=>hsp x (by simp [hx]))) (WideElems.Trod_stays laidOk (by kernel_rfl) (of_decide_eq_true (by kernel_rfl)) t2 (fun x hx=>hsame x (by simp [hx])) (fun x hx=>hsp x (by simp [hx]))) (WideElems.Trod_stays laidOk (by kernel_rfl) (of_decide_eq_true (by kernel_rfl)) t3 (fun x hx=>hsame x (by simp [hx])) (fun x hx=>hsp x (by simp [hx])))) (fun _ _=>rfl) rfl (Jap hk _)⟩
noncomputable def laidWorld (os:Os):World:=
 { World.holding Tryz.prog os ⟨#[],#[.agg #[.int .i64 0, .slice none 0 0], .int .i64 0, .int .i64 0, .string ⟨#[]⟩],[]⟩ with heap:=((((World.holding Tryz.prog os ⟨#[],#[.agg #[.int .i64 0, .slice none 0 0], .int .i64 0, .int .i64 0, .string ⟨#[]⟩],[]⟩).heap.modify 0 fun
   | .cells _ t frozen=> .cells wordsC.toArray t frozen
   | o=>o).modify 1 fun
   | .cells _ t frozen=> .cells barC.toArray t frozen
   | o=>o).modify 2 fun
   | .cells _ t frozen=> .cells #[.iface 247 (.agg #[typeHandle Tryz.prog 54])] t frozen
   | o=>o) }
theorem laid_met (os:Os):laidMetH Tryz.prog Rows.deskEditsRow.laid ((laidWorld os).forCall (fun _ _=>0) ⟨#[],#[.agg #[.int .i64 0, .slice none 0 0], .int .i64 0, .int .i64 0, .string ⟨#[]⟩],[]⟩).memory:=
 laidMetH_of_parts (laidMet_of_run' 8 (by kernel_rfl) (by kernel_rfl)) (by kernel_rfl)
theorem reads (os:Os) {H:Type} (enc:TypeId×Value→H): ∃places,DataW.whole enc Tryz.prog ((laidWorld os).forCall (fun _ _=>0) ⟨#[],#[.agg #[.int .i64 0, .slice none 0 0], .int .i64 0, .int .i64 0, .string ⟨#[]⟩],[]⟩).memory Tryz.f3.params.toList Rows.deskEditsSpec.vars false (#[.agg #[.int .i64 0, .slice none 0 0], .int .i64 0, .int .i64 0, .string ⟨#[]⟩] :Array Value).toList 8=some ([.agg [.lit (.int .i64 0), .nil], .lit (.int .i64 0), .lit (.int .i64 0), .lit (.string [])],[],places):=
 ⟨[],by kernel_rfl⟩
theorem lifted (os:Os) (started:os.Started) (H:Type) (enc:TypeId×Value→H) (F:Stop.Interp):
  ReturnsInHanded {} Tryz.checked os 3 .any ((OpenSpec.ofChange Rows.deskEditsSpec).preRow enc Tryz.prog Tryz.f3 Rows.deskEditsRow.domain false Rows.deskEditsRow.laid) (((OpenSpec.ofChange Rows.deskEditsSpec).at F).post enc Tryz.prog Tryz.f3 false true false false):=by
 obtain ⟨places,hx⟩:=reads os enc
 refine returnsInHanded_of_row (C:=Tryz.checked) (s:=OpenSpec.ofChange Rows.deskEditsSpec) own started (by kernel_rfl) Tryz.func3
  (witness_row_at (enc:=enc) (C:=Tryz.checked) false (laidWorld os) #[.agg #[.int .i64 0, .slice none 0 0], .int .i64 0, .int .i64 0, .string ⟨#[]⟩] rfl (by kernel_rfl) (by kernel_rfl) (by kernel_rfl)
   (OpenSpec.preRow_of_cond 8 hx (by kernel_rfl) (fun k hk=>by cases hk) (by kernel_rfl) (laid_met os))) ?_
 intro W base args ds gs before hval hW _ _ _ hL _ _
 exact contract H enc W base args ds gs before hval hW hL
theorem said:Rows.DeskEditsSaid:=
 OpenClaim.holds_of_cond 3 Tryz.f3 rfl rfl rfl rfl rfl rfl rfl ⟨rfl,rfl,rfl,rfl,rfl⟩ rfl rfl rfl rfl rfl (by kernel_rfl) Tryz.func3 (by kernel_rfl)
  (of_decide_eq_true (by kernel_rfl)) (by unfold Func.isWrapper;first | (rw [if_pos (by decide +kernel)];kernel_rfl) | (rw [if_neg (by decide +kernel)];exact ⟨rfl,rfl⟩))
  (fun os started H enc _ F=>by rw [OpenClaim.pre_eq_preRow];exact lifted os started H enc F)
theorem plain (f : FuncId) (fn : Func) (hf : Tryz.pinned.checked.prog.funcNamed "redraft/redraftlaw08.DeskEdits" = some f) (hfn : Tryz.pinned.checked.prog.funcs[f]? = some fn) :
  true=Tryz.pinned.checked.prog.looks [] ∧ ∀(j:Nat) t,fn.params[j]? =some t→Tryz.pinned.checked.prog.wantsStandIn t=false:=by
 obtain rfl : f = 3 := Option.some.inj ((show Tryz.prog.funcNamed "redraft/redraftlaw08.DeskEdits" = some 3 by kernel_rfl).symm.trans hf) |>.symm
 obtain rfl:fn=Tryz.f3:=(Option.some.inj (Tryz.func3.symm.trans hfn)).symm
 refine ⟨by kernel_rfl,fun j t ht=> ?_⟩
 rw [Tryz.params3] at ht
 rcases j with _ | _ | _ | _ | j
 ·simp at ht;subst ht;kernel_rfl
 ·simp at ht;subst ht;kernel_rfl
 ·simp at ht;subst ht;kernel_rfl
 ·simp at ht;subst ht;kernel_rfl
 ·simp at ht
theorem card:Rows.DeskEditsCardSaid:=
 Claim7.holds_tied_plain_at .later [] _ _ _ _ said (fun _ h=>by cases h) (by kernel_rfl) (fun _ h=>by cases h) deskEdits_row_tie rfl ⟨rfl,rfl⟩ (by kernel_rfl) rfl plain (by kernel_rfl)
#print axioms card
end Go.Proofs.YtgedhdmpiciikaaGreatDoor.deskEdits
