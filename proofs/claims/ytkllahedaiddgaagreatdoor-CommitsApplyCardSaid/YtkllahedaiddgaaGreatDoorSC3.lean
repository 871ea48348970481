/- commits.Sectors: its contract. No condition. -/
import Derived.Test.YtkllahedaiddgaaGreatDoorSC0
import Derived.Test.YtkllahedaiddgaaGreatDoorUG5
set_option linter.unusedSimpArgs false
set_option linter.unusedVariables false
namespace Go.Proofs
open Go.RowKit Go.Maps Go.Sort
set_option maxHeartbeats 3200000 in
set_option maxRecDepth 1000000 in
theorem Wi (a:Option Addr) (cap:Nat) (w:World) :
  Calls Tryz.prog 75 #[.slice a 0 cap] w fun e w'=>e=.returned (.slice none 0 0)∧Below w.heap.size w w':=by
 have hmm:=@run_makeMap Tryz.prog
 go_enter Tryz.func75,Tryz.ntmps75
 go_wp2
 refine wp_loop_rounds 1 ?_
 rw[rounds_succ]
 go_wp2_with (first
   | (at_range; refine wpList_range_own _ rfl _ 275 rfl 3 4 zhH Tryz.underlying275 _ w.heap.size 0 _ rfl (World.ownsMap_made (H:=Unit) _ _ _ (plainElem Tryz.prog 4)) ?_; intro w0 hrg0 hg0 hs0)
   | go_in)
 refine wp_loop_rounds 1 ?_
 rw[rounds_succ]
 have hsz:(w.alloc (Obj.map #[] 0)).heap.size=w.heap.size + 1:=by simp
 have hbb:Hid (Below w.heap.size w w0):=((Below.refl _ _).alloc (Nat.le_refl _) _).grown hg0 (by simp) (fun j hj=>by cases hj)
 clear hs0 hg0
 rw[hsz] at hrg0
 rw[hsz]
 clear hsz
 go_wp2_with (first
  | (at_next; refine wpList_next_ranges _ rfl _ rfl 3 zhH (plainElem (H:=Unit) Tryz.prog 4) (Value.int .i64) (fun v:Value=>v) (fun key kl hkey=>by obtain⟨x,rfl,_⟩:=Maps.keyOf_int_inv Tryz.underlying3 hkey; exact⟨x,rfl⟩) (fun v y hv=>⟨v,rfl⟩) w.heap.size (w.heap.size + 1) 0 _ _ _ rfl hrg0 ?_ ?_)
  | go_in)
 ·intro _ _
  clear hrg0
  go_wp2_with (first
   | (go_at_call 147; refine (Tryz.slices_Sort_int_none none 0 _).mono ?_; rintro e w' ⟨rfl,rfl⟩)
   | (go_at_call 98; refine (zhI none 0 0 _ (Nat.le_refl _)).mono ?_; rintro e w' ⟨rfl,rfl⟩)
   | go_in)
  go_ret
  exact⟨rfl,hbb.out⟩
 ·intro x c kl yd yp w2 cnt2 hkey hlk hv hat hrg2 hlt
  simp [Maps.size] at hlt
end Go.Proofs
namespace Go.K
open Go.Ab Go.RowKit Go.Y Go.Proofs
noncomputable section
attribute [local instance 10000] gO
noncomputable def ddI (z:Nat→Int):Nat→List Int
 | 0=>[]
 | k + 1=>@ite _ (z k∈ddI z k) (Classical.propDecidable _) (ddI z k) (ddI z k++[z k])
theorem zbg (z:Nat→Int):∀ k,(ddI z k).Nodup
 | 0=>List.nodup_nil
 | k + 1=>by
  show (@ite _ (z k∈ddI z k) (Classical.propDecidable _) (ddI z k) (ddI z k++[z k])).Nodup
  have ih:=zbg z k
  split
  ·exact ih
  ·rename_i h
   exact List.nodup_append.2 ⟨ih,by simp,fun a ha b hb=>by simp at hb; subst hb; exact fun e=>h (e▸ha)⟩
theorem Ze (z:Nat→Int):∀ k x,x∈ddI z k↔jC z k x
 | 0,x=>by simp [ddI,jC]
 | k + 1,x=>by
  show x∈(@ite _ (z k∈ddI z k) (Classical.propDecidable _) (ddI z k) (ddI z k++[z k]))↔_
  have ih:=Ze z k
  have e:jC z (k + 1) x↔jC z k x∨x=z k:=by
   constructor
   ·rintro⟨j,hj,e⟩
    by_cases e2:j=k
    ·subst e2; exact .inr e.symm
    ·exact .inl ⟨j,by omega,e⟩
   ·rintro (⟨j,hj,e⟩ | e)
    ·exact⟨j,by omega,e⟩
    ·exact⟨k,by omega,e.symm⟩
  rw[e]
  split
  ·rename_i h
   rw[ih x]
   exact⟨.inl,fun q=>q.elim (fun q=>q) fun q=>by rw[q,←ih]; exact h⟩
  ·rw[List.mem_append,ih x]
   simp
theorem zhe {l l':List Int}(h:l.Perm l'):VN l=VN l':=by
 have tr:∀ a b c:Int,decide (a≤b)=true→decide (b≤c)=true→decide (a≤c)=true:=fun a b c h1 h2=>by simp only[decide_eq_true_eq] at *; omega
 have to:∀ a b:Int,(decide (a≤b)||decide (b≤a))=true:=fun a b=>by simp only[Bool.or_eq_true,decide_eq_true_eq]; omega
 refine List.Perm.eq_of_pairwise (le:=fun a b=>decide (a≤b)=true) (fun a b _ _ h1 h2=>?_) (List.pairwise_mergeSort tr to l) (List.pairwise_mergeSort tr to l') (((List.mergeSort_perm l _).trans h).trans (List.mergeSort_perm l' _).symm)
 simp only[decide_eq_true_eq] at h1 h2
 omega
theorem zkA {w:World}{g j:Nat}{v:Value}(h:w.cell? ⟨g,j,none⟩=some v):g < w.heap.size:=by
 unfold World.cell? at h
 cases e:w.heap[g]? with
 | none=>simp [e] at h
 | some o=>exact (Array.getElem?_eq_some_iff.1 e).1
structure Wr where
 sc:Int
 ln:Nat
 by':Nat→Nat
noncomputable def zoS:Shape:=.cons .sc (.cons .sc .nl)
noncomputable def Wr.k (x:Wr):KV:=.cons (.int .i64 x.sc) (.cons (.ro true false .sc 0 x.ln (.fa x.ln fun i=>kU8 (x.by' i))) .nl)
noncomputable def va (m:Nat) (W:Nat→Wr):KV:=.ro true false zoS 0 m (.fa m fun i=>(W i).k)
noncomputable def scW (W:Nat→Wr) (i:Nat):Int:=(W i).sc
noncomputable def srW (m:Nat) (W:Nat→Wr):List Int:=VN (ddI (scW W) m)
noncomputable def zhf (m:Nat) (W:Nat→Wr):KV:=.ro true true .sc 0 (srW m W).length (.fa (srW m W).length fun i=>.int .i64 ((srW m W).getD i 0))
theorem zmh:KCS Tryz.prog 75 (qw (fun x:Nat×(Nat→Wr)=>[va x.1 x.2]) (fun x=>x.1≤1000∧∀ i,i < x.1→(Lit.int .i64 (x.2 i).sc).wf=true) fun x=>zhf x.1 x.2):=by
 refine⟨⟨Tryz.f75,Tryz.func75,by kernel_rfl,by kernel_rfl⟩,fun l K hs=>?_⟩
 obtain⟨⟨m,W⟩,rfl,⟨h1,h2⟩,hk⟩:=hs
 have h1:m≤1000:=h1
 refine⟨zhf m W,hk,fun B μ nx mx l0 hl0=>?_⟩
 have hc:xi Tryz.prog 75 { pre:=fun l''=>@decide (l''=[va m W].map KV.v) (Classical.propDecidable _),res:=fun _=>(zhf m W).v,fresh:=true }:=by
  refine⟨⟨Tryz.f75,Tryz.func75,by kernel_rfl,by kernel_rfl⟩,fun C l'' vals hok hg hargs hpre=>?_⟩
  obtain rfl:l''=[va m W].map KV.v:=@of_decide_eq_true _ (Classical.propDecidable _) hpre
  obtain⟨v,vs,rfl,⟨a,c,ha,hmc,-,hr⟩,hn⟩:=hargs
  obtain rfl:vs=[]:=hn
  obtain rfl:v=.slice a m c:=ha
  have nil:∀ w',Below C.w.heap.size C.w w'→ddI (scW W) m=[]→Below C.w.heap.size C.w w'∧∃ r,Ending.returned (.slice none 0 0)=.returned r∧R { C.pur with w:=w',ok:=fun u b=>((true:Bool)=false∧∃ u',C.ok u' b)∨(C.w.heap.size≤b∧b < w'.heap.size) } (zhf m W).v (.val r):=fun w' hb e=>by
   refine⟨hb,_,rfl,?_⟩
   have e2:srW m W=[]:=by
    unfold srW
    rw[e]; simp [VN]
   unfold zhf
   rw[e2]
   exact⟨none,0,rfl,Nat.le_refl _,fun _=>rfl,.inl rfl⟩
  rcases hr with rfl | ⟨b,o,rfl,hb,hr⟩
  ·refine (Wi a c C.w).mono ?_
   rintro e w' ⟨rfl,hb⟩
   exact nil w' hb rfl
  ·have hcell:∀ j,j < m→C.w.cell? ⟨b,o + j * 2,none⟩=some (.int .i64 (scW W j))∧∃ a' l' c',C.w.cell? ⟨b,o + j * 2 + 1,none⟩=some (.slice a' l' c'):=fun j hj=>by
    obtain⟨s1,s2,e,q1,s3,s4,e2,⟨a',c',q2,-⟩,-⟩:=hr j hj
    cases e
    cases e2
    have q3:C.w.cell? ⟨b,o + j * 2,none⟩=some (.int .i64 (W (0 + j)).sc):=q1.2
    rw[Nat.zero_add] at q3
    exact⟨q3,a',_,c',q2.2⟩
   obtain⟨sa,hsa⟩:∃ sa:Nat→Option Addr×Nat×Nat,∀ j,j < m→C.w.cell? ⟨b,o + j * 2 + 1,none⟩=some (.slice (sa j).1 (sa j).2.1 (sa j).2.2):=by
    refine⟨fun j=>if h:j < m then ⟨Classical.choose (hcell j h).2,Classical.choose (Classical.choose_spec (hcell j h).2),Classical.choose (Classical.choose_spec (Classical.choose_spec (hcell j h).2))⟩ else ⟨none,0,0⟩,fun j hj=>?_⟩
    simp only[dif_pos hj]
    exact Classical.choose_spec (Classical.choose_spec (Classical.choose_spec (hcell j hj).2))
   refine (zaa b o m c (scW W) (fun j=>(sa j).1) (fun j=>(sa j).2.1) (fun j=>(sa j).2.2) C.w h1 (hok _ _ hb) (fun j hj=>⟨(hcell j hj).1,hsa j hj⟩) h2).mono ?_
   rintro e w' ⟨v,rfl,⟨ks,k1,k2,a,rfl,k3⟩,hbl⟩
   have hp:ks.Perm (ddI (scW W) m):=(List.perm_ext_iff_of_nodup k1 (zbg _ _)).2 fun x=>by rw[k2 x,Ze]
   have hs:VN ks=srW m W:=zhe hp
   have hlen:(srW m W).length=ks.length:=by
    rw[←hs]; exact List.length_mergeSort ks
   refine⟨hbl,_,rfl,a,ks.length,?_,?_,?_,?_⟩
   ·show _=_
    rw[hlen]
   ·omega
   ·intro _; exact hlen.symm
   ·rcases k3 with rfl | ⟨g,rfl,hg2,hcl⟩
    ·left; simpa using hlen
    ·by_cases h0:ks.length=0
     ·left; omega
     ·right
      refine⟨g,0,rfl,.inr ⟨hg2,?_⟩,fun i hi=>?_⟩
      ·exact zkA (hcl 0 (by omega))
      ·have:=hcl i (by omega)
       rw[hs] at this
       refine⟨rfl,?_⟩
       show w'.cell? ⟨g,0 + i * 1,none⟩=_
       rw[Nat.zero_add,Nat.mul_one,this]
       show some (Value.int .i64 _)=some (Value.int .i64 ((srW m W).getD (0 + i) 0))
       rw[Nat.zero_add]
 exact xZ (B:=B) (μ:=μ) (nx:=nx) (mx:=mx) zR.gn hc rfl hl0 (by rw[j2]; exact @decide_eq_true _ (Classical.propDecidable _) rfl)
end
end Go.K
