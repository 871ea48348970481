/- commits.Sectors: the walk. No condition. -/
import Derived.Shelf.Sort.Plain
import Derived.Shelf.Slices.In.SortNone
import Derived.Test.YtkllahedaiddgaaGreatDoorProg
import Derived.Maps.OwnSet
import Derived.Maps.AppendAt
import Derived.Maps.Range
import Derived.Maps.RangeWalk
import Derived.Sort.OwnSortedInts
import Derived.WalkKit
import Derived.OwnWalk
import Derived.Deep.RegionWith
set_option linter.unusedSimpArgs false
set_option linter.unusedVariables false
namespace Go.Proofs
open Go.Shelf
def Tryz.lays189_ren:Go.Shelf.Ren:=⟨fun | 189=>147 | 125=>202 | 257=>201 | 128=>265 | 129=>266 | 294=>256 | 295=>257 | 296=>258 | 297=>259 | 298=>260 | 299=>261 | 216=>262 | 300=>263 | 301=>264 | 328=>288 | 329=>289 | 330=>290 | 331=>291 | 332=>292 | 215=>293 | 343=>310 | n=>n,fun | 28=>31 | 3=>3 | 46=>259 | 0=>0 | 51=>67 | 53=>42 | 4=>4 | 183=>402 | 182=>401 | 131=>406 | 5=>5 | 9=>9 | 218=>435 | 222=>439 | 228=>471 | 229=>413 | n=>n,fun | n=>n⟩
theorem Tryz.lays189:Go.Proofs.Lays.n189 Tryz.prog Tryz.lays189_ren where
 mixed:=by kernel_rfl
 f125:=Tryz.func202.trans (congrArg some (by kernel_rfl))
 f128:=Tryz.func265.trans (congrArg some (by kernel_rfl))
 f129:=Tryz.func266.trans (congrArg some (by kernel_rfl))
 f189:=Tryz.func147.trans (congrArg some (by kernel_rfl))
 f215:=Tryz.func293.trans (congrArg some (by kernel_rfl))
 f216:=Tryz.func262.trans (congrArg some (by kernel_rfl))
 f257:=Tryz.func201.trans (congrArg some (by kernel_rfl))
 f294:=Tryz.func256.trans (congrArg some (by kernel_rfl))
 f295:=Tryz.func257.trans (congrArg some (by kernel_rfl))
 f296:=Tryz.func258.trans (congrArg some (by kernel_rfl))
 f297:=Tryz.func259.trans (congrArg some (by kernel_rfl))
 f298:=Tryz.func260.trans (congrArg some (by kernel_rfl))
 f299:=Tryz.func261.trans (congrArg some (by kernel_rfl))
 f300:=Tryz.func263.trans (congrArg some (by kernel_rfl))
 f301:=Tryz.func264.trans (congrArg some (by kernel_rfl))
 f328:=Tryz.func288.trans (congrArg some (by kernel_rfl))
 f329:=Tryz.func289.trans (congrArg some (by kernel_rfl))
 f330:=Tryz.func290.trans (congrArg some (by kernel_rfl))
 f331:=Tryz.func291.trans (congrArg some (by kernel_rfl))
 f332:=Tryz.func292.trans (congrArg some (by kernel_rfl))
 f343:=Tryz.func310.trans (congrArg some (by kernel_rfl))
 t0:=Tryz.underlying0
 a0:=Tryz.isAgg0
 z0:=Tryz.sizeOf0
 v0:=Tryz.zeroValue0
 t3:=Tryz.underlying3
 a3:=Tryz.isAgg3
 z3:=Tryz.sizeOf3
 v3:=Tryz.zeroValue3
 t4:=Tryz.underlying4
 a4:=Tryz.isAgg4
 z4:=Tryz.sizeOf4
 v4:=Tryz.zeroValue4
 t5:=Tryz.underlying5
 a5:=Tryz.isAgg5
 z5:=Tryz.sizeOf5
 v5:=Tryz.zeroValue5
 t9:=Tryz.underlying9
 a9:=Tryz.isAgg9
 z9:=Tryz.sizeOf9
 v9:=Tryz.zeroValue9
 t28:=Tryz.underlying31
 a28:=Tryz.isAgg31
 z28:=Tryz.sizeOf31
 v28:=Tryz.zeroValue31
 t46:=Tryz.underlying259
 a46:=Tryz.isAgg259
 z46:=Tryz.sizeOf259
 v46:=Tryz.zeroValue259
 t51:=Tryz.underlying67
 a51:=Tryz.isAgg67
 z51:=Tryz.sizeOf67
 v51:=Tryz.zeroValue67
 t53:=Tryz.underlying42
 a53:=Tryz.isAgg42
 z53:=Tryz.sizeOf42
 v53:=Tryz.zeroValue42
 t131:=Tryz.underlying406
 a131:=Tryz.isAgg406
 z131:=Tryz.sizeOf406
 v131:=Tryz.zeroValue406
 t182:=Tryz.underlying401
 a182:=Tryz.isAgg401
 z182:=Tryz.sizeOf401
 v182:=Tryz.zeroValue401
 t183:=Tryz.underlying402
 a183:=Tryz.isAgg402
 z183:=Tryz.sizeOf402
 v183:=Tryz.zeroValue402
 t218:=Tryz.underlying435
 a218:=Tryz.isAgg435
 z218:=Tryz.sizeOf435
 v218:=Tryz.zeroValue435
 t222:=Tryz.underlying439
 a222:=Tryz.isAgg439
 z222:=Tryz.sizeOf439
 v222:=Tryz.zeroValue439
 t228:=Tryz.underlying471
 a228:=Tryz.isAgg471
 z228:=Tryz.sizeOf471
 v228:=Tryz.zeroValue471
 t229:=Tryz.underlying413
 a229:=Tryz.isAgg413
 z229:=Tryz.sizeOf413
 v229:=Tryz.zeroValue413
open Go.Sort Go.RowKit in
theorem Tryz.slices_Sort_int (blk off cap:Nat) (zs:List Int) (w:World) (hH:Holds (Value.int .i64) w blk off zs.toArray) (hblk:blk < w.heap.size) (hsz:zs.length < 4611686018427387904) :
  Calls Tryz.prog 147 #[.slice (some ⟨blk,off,none⟩) zs.length cap] w fun e w' =>
   e=.returned (.tuple #[])∧∃ n os,w'=grow (putRow (Value.int .i64) (Sort.ahead w n) blk off (zs.mergeSort fun x y=>decide (x≤y)).toArray) os:=Any.slices_Sort_int Tryz.lays189 blk off cap zs w hH hblk hsz
open Go.RowKit Go.Sort in
theorem Tryz.slices_Sort_int_none (p:Option Addr) (cap:Nat) (w:World) :
  Calls Tryz.prog 147 #[.slice p 0 cap] w fun e w'=>e=.returned (.tuple #[])∧w'=w:=Any.slices_Sort_int_none Tryz.lays189 p cap w
end Go.Proofs
namespace Go.Proofs
open Go.RowKit Go.Maps Go.Sort
theorem Tryz.info3':(Tryz.prog.info? 3).map (fun i=>(i.zero,i.size,i.bytes))=some (some (.int .i64 0),1,8):=by kernel_rfl
theorem zhH:Keyed Tryz.prog 3:=int_keyed Tryz.underlying3
def CollI (D0:DataW Unit) (left:Lit→Bool) (ss:List Int):Prop:=ss.Nodup∧∀ x,x∈ss↔(has D0 (.int .i64 x)=true∧left (.int .i64 x)=false)
theorem CollI.start (D0:DataW Unit):CollI D0 (has D0) []:=⟨List.nodup_nil,fun x=>by cases has D0 (.int .i64 x)<;>simp⟩
theorem CollI.step {D0:DataW Unit}{left:Lit→Bool}{ss:List Int}(h:CollI D0 left ss) {x:Int}{y:DataW Unit}(hlk:left (.int .i64 x)=true) (hat:∀ zd,D0.atKey (.int .i64 x) zd=y):CollI D0 (fun z=>left z&&!z.sameKey (.int .i64 x)) (ss++[x]):=by
 have hhas:has D0 (.int .i64 x)=true:=has_true_of_atKey hat
 have hnew:x ∉ ss:=fun hx=>by have:=((h.2 x).1 hx).2; rw[hlk] at this; cases this
 refine⟨List.nodup_append.2 ⟨h.1,by simp,fun a ha b hb=>by simp at hb; subst hb; exact fun e=>hnew (e▸ha)⟩,fun y=>?_⟩
 by_cases hy:y=x
 ·subst hy; simp [hhas,Lit.sameKey]
 ·simp [h.2 y,hy,Lit.sameKey]
def MapI (D:DataW Unit) (p:Int→Prop):Prop:=∀ x,has D (.int .i64 x)=true↔p x
theorem MapI.put {D:DataW Unit}{p q:Int→Prop}(h:MapI D p) (hm:IsMap D) (x:Int) (d:DataW Unit) (hq:∀ y,q y↔p y∨y=x):MapI (D.put (.int .i64 x) d) q:=fun y=>by
 rw[hq y]
 by_cases e:y=x
 ·subst e
  rw[has_put_same hm (by trivial)]
  simp
 ·rw[has_put_other (by intro h'; cases h'; exact e rfl),h y]
  simp [e]
theorem zhI (a:Option Addr) (n cap:Nat) (w:World) (h:n≤cap):Calls Tryz.prog 98 #[.slice a n cap] w fun e w'=>e=.returned (.slice a n n)∧w'=w:=by
 go_enter Tryz.func98,Tryz.ntmps98
 go_wp2
 go_ret
 exact⟨rfl,rfl⟩
def VN (l:List Int):List Int:=l.mergeSort fun x y=>decide (x≤y)
def jC (z:Nat→Int) (k:Nat) (x:Int):Prop:=∃ j,j < k∧z j=x
def zx6 (z:Nat→Int) (len:Nat) (w:World) (v:Value) (w':World):Prop:=∃ ks:List Int,ks.Nodup∧(∀ x,x∈ks↔jC z len x)∧∃ a,v=.slice a ks.length ks.length ∧
 (ks=[]∨∃ g,a=some ⟨g,0,none⟩∧w.heap.size≤g∧∀ j,j < ks.length→w'.cell? ⟨g,j,none⟩=some (.int .i64 ((VN ks).getD j 0)))
theorem zdB {w:World}{b n:Nat}{D:DataW Unit}(h:w.ownsMap Tryz.prog 3 (plainElem Tryz.prog 4) b n D):Maps.size D≤n:=by
 obtain⟨es,clock,_,F,hs,rfl⟩:=h
 simpa [Maps.size,length_sorted] using hs
set_option maxHeartbeats 3200000 in
set_option maxRecDepth 1000000 in
theorem zaa (b off len cap:Nat) (z:Nat→Int) (sa:Nat→Option Addr) (sl sc:Nat→Nat) (w:World) (hlen:len≤1000) (hb:b < w.heap.size)
  (hc:∀ j,j < len→w.cell? ⟨b,off + j * 2,none⟩=some (.int .i64 (z j))∧w.cell? ⟨b,off + j * 2 + 1,none⟩=some (.slice (sa j) (sl j) (sc j))) (hwz:∀ j,j < len→(Lit.int .i64 (z j)).wf=true) :
  Calls Tryz.prog 75 #[.slice (some ⟨b,off,none⟩) len cap] w fun e w'=>∃ v,e=.returned v∧zx6 z len w v w'∧Below w.heap.size w w':=by
 have hmm:=@run_makeMap Tryz.prog
 obtain⟨i0,hi,hz0,hz1,hz2⟩:=info_parts Tryz.info3'
 go_enter Tryz.func75,Tryz.ntmps75
 go_wp2
 go_loopw [11] (fun i wr=>∃(k:Nat) (D:DataW Unit),k≤len∧i=.int .i64 k∧wr.ownsMap Tryz.prog 3 (plainElem Tryz.prog 4) w.heap.size k D∧MapI D (jC z k) ∧
   Below w.heap.size w wr∧w.heap.size + 1≤wr.heap.size)
  (fun i _=>len - (intOf i).toNat)
 case atStart =>
  exact⟨0,.map [],Nat.zero_le _,rfl,World.ownsMap_made _ _ _ _,fun x=>by simp [has,jC],(Below.refl _ _).alloc (Nat.le_refl _) _,by simp⟩
 case round =>
  obtain⟨k,D,hk,rfl,hown,hD,hnx,hws⟩:=hrel
  have hcx:k < len→wr.cell? ⟨b,off + k * 2,none⟩=some (.int .i64 (z k)):=fun _=>(hnx.cell (by exact hb)).trans (hc k (by omega)).1
  have hcy:k < len→wr.cell? ⟨b,off + k * 2 + 1,none⟩=some (.slice (sa k) (sl k) (sc k)):=fun _=>(hnx.cell (by exact hb)).trans (hc k (by omega)).2
  have hkey:k < len→keyOf Tryz.prog 3 (.int .i64 (z k))=some (.int .i64 (z k)):=fun h=>keyOf_int_mk Tryz.underlying3 (hwz k h)
  go_wp2_with (first
   | (at_mapUpdate; refine wpList_mapUpdate_own _ rfl _ _ _ 275 rfl 3 4 zhH Tryz.underlying275 (plainElem (H:=Unit) Tryz.prog 4) w.heap.size k _ rfl (hown.alloc _) (by unfold maxLen; omega) _ _ _ rfl rfl (hkey (by assumption)) _ [] (plainElem_bool Tryz.underlying4 true) ?_; intro w1 hown1 hgrow1)
   | (at_range; refine wpList_range_own _ rfl _ 275 rfl 3 4 zhH Tryz.underlying275 _ w.heap.size k _ rfl hown ?_; intro w0 hrg0 hg0 hs0)
   | go_in)
  ·have hlt:k < len:=by assumption
   have s1:=hgrow1.size
   simp at s1
   go_roundw
   case rel =>
    refine⟨k + 1,_,by omega,by go_num,hown1,hD.put hown.isMap _ _ (fun y=>?_),?_,by omega⟩
    ·constructor
     ·rintro⟨j,hj,e⟩
      by_cases e2:j=k
      ·subst e2; exact .inr e.symm
      ·exact .inl ⟨j,by omega,e⟩
     ·rintro (⟨j,hj,e⟩ | e)
      ·exact⟨j,by omega,e⟩
      ·exact⟨k,by omega,e.symm⟩
    ·exact (hnx.alloc hnx.size _).grown hgrow1 (by simp; omega) (fun j hj=>by cases hj; exact Nat.le_refl _)
   case measure=>simp [intOf]; omega
  ·obtain rfl:k=len:=by omega
   have hwsz:w.heap.size < w0.heap.size:=by omega
   clear hcx hcy hkey hc
   have hws0:w.heap.size≤wr.heap.size:=by omega
   have hws1:Hid (w.heap.size≤wr.heap.size):=hws0
   clear hws0
   generalize hr0:wr.heap.size=r0 at hrg0 hs0 hws ⊢
   clear hr0
   rw[show decide (k < k)=false by simp]
   go_frame
   go_loopw [6] (fun v wr'=>∃(left:Lit→Bool) (cnt:Nat) (ks:List Int),wr'.ranges Tryz.prog 3 (plainElem (H:=Unit) Tryz.prog 4) w.heap.size r0 k D left cnt∧ks.length + cnt≤Maps.size D ∧
     wr'.ownsRow (w.heap.size + 1) 3 1 v ks.length (ks.map (Value.int .i64))∧CollI D left ks∧(ks=[]→v=.slice none 0 0)∧Below w.heap.size w wr'∧w.heap.size + 1≤wr'.heap.size)
    (fun _ wr'=>wr'.rangeLeft w.heap.size r0)
   case atStart =>
    exact⟨_,_,[],hrg0,by simp,World.ownsRow_nil _ _ _ _,CollI.start D,fun _=>rfl,hnx.grown hg0 hws1.out (fun j hj=>by cases hj),by omega⟩
   case round =>
    obtain⟨left,cnt,ks,hrg,hcs,hrow,hC,hN,hnx2,hws2⟩:=hrel
    go_wp2_with (first
     | (at_next; refine wpList_next_ranges _ rfl _ rfl 3 zhH (plainElem (H:=Unit) Tryz.prog 4) (Value.int .i64) (fun v:Value=>v) (fun key kl hkey=>by obtain⟨x,rfl,_⟩:=Maps.keyOf_int_inv Tryz.underlying3 hkey; exact⟨x,rfl⟩) (fun v y hv=>⟨v,rfl⟩) w.heap.size r0 k _ _ _ rfl hrg ?_ ?_)
     | go_in)
    ·intro hc0 hl0
     have hks:∀ x,x∈ks↔jC z k x:=fun x=>by
      rw[hC.2 x,←hD x]
      simp [hl0]
     have hout:Hid (ks.Nodup∧∀ x,x∈ks↔jC z k x):=⟨hC.1,hks⟩
     rcases hrow.2 with ⟨hnil,hk0⟩ | ⟨g,cp,cur,hv,hbase,hb',h1,h2,h3,h4⟩
     ·subst hnil
      obtain rfl:ks=[]:=List.eq_nil_of_length_eq_zero hk0
      clear hrg hks
      go_wp2_with (first
       | (go_at_call 147; refine (Tryz.slices_Sort_int_none none 0 _).mono ?_; rintro e w' ⟨rfl,rfl⟩)
       | (go_at_call 98; refine (zhI none 0 0 _ (Nat.le_refl _)).mono ?_; rintro e w' ⟨rfl,rfl⟩)
       | go_in)
      go_ret
      exact⟨_,rfl,⟨[],hout.out.1,hout.out.2,none,rfl,.inl rfl⟩,hnx2⟩
     ·subst hv
      have hH:Holds (Value.int .i64) wr g 0 ks.toArray:=holds_of_blockI hb' (by simpa using h4)
      have hgl:g < wr.heap.size:=(Array.getElem?_eq_some_iff.1 hb').1
      have hDs:Maps.size D≤k:=zdB hown
      have hsort:=Tryz.slices_Sort_int g 0 cp ks wr hH hgl (by omega)
      have hl2:(VN ks).length=ks.length:=List.length_mergeSort ks
      have hh1:Hid (ks.length≤cp):=h1
      clear hrg hH hks h4
      go_wp2_with (first
       | (go_at_call 147; refine hsort.mono ?_; rintro e w' ⟨rfl,nn,os,rfl⟩)
       | (go_at_call 98; refine (zhI (some ⟨g,0,none⟩) ks.length cp _ h1).mono ?_; rintro e w' ⟨rfl,rfl⟩)
       | go_in)
      go_ret
      have hg:=grownBy_sortedI (w:=wr) (g:=g) (n:=nn) (os:=os) (VN ks).toArray
      have hro:=ownsRow_sortedI (n:=nn) (os:=os) (ts:=VN ks) hl2 hbase hb' h1 h2 h3
      refine⟨_,rfl,⟨ks,hout.out.1,hout.out.2,_,rfl,.inr ⟨g,rfl,by omega,fun j hj=>?_⟩⟩,hnx2.grown hg hnx2.size (fun j hj=>by cases hj; omega)⟩
      have q:=hro.cellAt j (by omega)
      show (grow (putRow (Value.int .i64) (Sort.ahead wr nn) g 0 (VN ks).toArray) os).cell? ⟨g,j,none⟩=_
      rw[q]
      have hj2:j < (VN ks).length:=by omega
      simp [List.getD,List.getElem?_eq_getElem hj2]
    ·intro x c kl yd yp w2 cnt2 hkey hlk hv hat hrg2 hlt hg2 hs2 hen
     obtain⟨x',ex,rfl,hwx⟩:=Maps.keyOf_int_inv Tryz.underlying3 hkey
     cases ex
     have hrow2:=hrow.kept hg2 (Or.inr (row_ne_iter hrow hrg).symm)
     have hDs:Maps.size D≤k:=zdB hrg.owns
     clear hs2
     go_wp2_with (first
      | (at_builtin; refine wpList_append_own _ rfl _ _ 31 rfl (w.heap.size + 1) 3 i0 (.int .i64 0) 1 8 Tryz.underlying31 hi hz0 hz1 hz2 rfl (by decide) _ _ _ rfl (hrow2.alloc _) ⟨w2.heap.size,0,none⟩ 1 1 [.int .i64 x] rfl rfl (cell_one_new _ _ _) (ints_oneCell .i64 [x]) (by unfold maxLen; omega) (by omega) (by have:=hg2.size; simp; omega) ?_; intro v' w3 hown' hg3 hnil3)
      | go_in)
     have hbl:w.heap.size < w.heap.size + 1:=Nat.lt_succ_self _
     have hrg3:=(hrg2.alloc (.cells #[.int .i64 x] 3)).kept hg3 (row_ne_low hrow2 hbl) (row_ne_iter hrow2 hrg2)
     go_roundw
     case rel =>
      refine⟨_,cnt2,ks++[x],hrg3,by simp; omega,by simpa using hown',hC.step hlk hat,fun h=>by simp at h,?_,?_⟩
      ·exact ((hnx2.grown hg2 hnx2.size (fun j hj=>by cases hj; omega)).alloc (by have:=hg2.size; omega) _).grown hg3 (by have:=hg2.size; simp; omega) (fun j hj=>by have:=(hrow2.lt j hj).1; omega)
      ·have:=hg2.size; have:=hg3.size; simp at this; omega
     case measure=>rw[hrg3.left_eq,hrg.left_eq]; exact hlt
end Go.Proofs
