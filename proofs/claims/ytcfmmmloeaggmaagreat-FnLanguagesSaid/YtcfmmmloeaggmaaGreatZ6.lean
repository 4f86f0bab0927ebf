/- Several texts of this session as one, less what the claim does not need. -/
import Derived.Test.YtcfmmmloeaggmaaGreatCb
import Derived.Test.YtcfmmmloeaggmaaGreatZ5
import Derived.Test.YtcfmmmloeaggmaaGreatFC
section
section
namespace Go.Proofs.YtcfmmmloeaggmaaGreat
open Go.Kv
set_option linter.unusedVariables false
set_option linter.unusedSimpArgs false
attribute [local irreducible] ACall PCall KL
def szR:List (List Int)→Int→Int
 | [],k=>k
 | r :: t,k=>if k - r.length<0 then -1 else szR t (k - r.length)
def szT (t:List (List Int)) (k:Int):Int:=if k - t.length<0 then -1 else szR t (k - t.length)
end Go.Proofs.YtcfmmmloeaggmaaGreat
end
section
namespace Go.Kv
set_option linter.unusedVariables false
set_option linter.unusedSimpArgs false
def refs (rs:List (Nat × Nat)) (t:List (List Int)):List PV:=List.zipWith (fun r l=>PV.ref r.1 r.2 0 l.length) rs t
structure TabAt (e2 e1:TypeId) (σ:Heap) (id ver:Nat) (rs:List (Nat × Nat)) (t:List (List Int)):Prop where
 out:σ[id]? = some (.arr ver e2 1 (refs rs t))
 len:rs.length=t.length
 row:∀ (i:Nat) (r:Nat × Nat) (l:List Int),rs[i]? = some r→t[i]? = some l→σ[r.1]? = some (.arr r.2 e1 1 (ints l))
 nd:(rs.map Prod.fst).Nodup
 ni:id ∉ rs.map Prod.fst
theorem refs_length {rs:List (Nat × Nat)} {t:List (List Int)} (h:rs.length=t.length):(refs rs t).length=t.length:=by simp [refs,h]
theorem refs_get {rs:List (Nat × Nat)} {t:List (List Int)} {i:Nat} {x:PV} (h:(refs rs t)[i]? = some x):∃ r l,rs[i]? = some r∧t[i]? = some l∧x = .ref r.1 r.2 0 l.length:=by
 simp only [refs,List.getElem?_zipWith] at h
 cases hr:rs[i]? with
 | none=>simp [hr] at h
 | some r =>
  cases hl:t[i]? with
  | none=>simp [hr,hl] at h
  | some l=>simp [hr,hl] at h; exact ⟨r,l,rfl,rfl,h.symm⟩
variable {e2 e1:TypeId} {σ:Heap} {id ver:Nat} {rs:List (Nat × Nat)} {t:List (List Int)}
theorem TabAt.imm (h:TabAt e2 e1 σ id ver rs t) {n:Nat} (hn:n=t.length):Imm σ (.ref id ver 0 n) (.list (rows t)):=by
 subst hn
 refine .ref id ver 0 t.length e2 1 (refs rs t) (rows t) h.out (by rw [refs_length h.len]; omega) (rows_length t) (fun i x d hx hd=>?_) (fun i x d j c c' hx hd hc hc'=>?_)
 ·obtain ⟨r,l,hr,hl,rfl⟩:=refs_get hx
  obtain ⟨y,_,rfl⟩:=rows_get hd
  exact ⟨rfl,rfl⟩
 ·rw [Nat.zero_add] at hx
  obtain ⟨r,l,hr,hl,rfl⟩:=refs_get hx
  obtain ⟨y,hy,rfl⟩:=rows_get hd
  rw [hl] at hy; cases hy
  have h1:=List.mem_of_getElem? hc
  have h2:=List.mem_of_getElem? hc'
  simp [PV.cs] at h1 h2; subst h1; subst h2
  exact .refi (h.row i r l hr hl)
theorem TabAt.append (h:TabAt e2 e1 σ id ver rs t) (τ:Heap):TabAt e2 e1 (σ ++ τ) id ver rs t where
 out:=by rw [List.getElem?_append_left (List.getElem?_eq_some_iff.1 h.out).1]; exact h.out
 len:=h.len
 row:=fun i r l hr hl=>by
  have:=h.row i r l hr hl
  rw [List.getElem?_append_left (List.getElem?_eq_some_iff.1 this).1]; exact this
 nd:=h.nd
 ni:=h.ni
def shR (n:Nat) (rs:List (Nat × Nat)):List (Nat × Nat):=rs.map fun r=>(r.1+n,r.2)
theorem TabAt.shift (h:TabAt e2 e1 σ id ver rs t) (τ:Heap):TabAt e2 e1 (τ ++ σ.map (AObj.ren (sh τ.length))) (id + τ.length) ver (shR τ.length rs) t where
 out:=by
  rw [List.getElem?_append_right (by omega),Nat.add_sub_cancel,List.getElem?_map,h.out]
  simp only [Option.map_some,ren_arr,Option.some.injEq,AObj.arr.injEq,true_and]
  simp only [refs,shR,List.map_zipWith,List.zipWith_map_left,ren_ref,sh_def]
 len:=by simp [shR,h.len]
 row:=fun i r l hr hl=>by
  simp only [shR,List.getElem?_map,Option.map_eq_some_iff] at hr
  obtain ⟨q,hq,rfl⟩:=hr
  rw [List.getElem?_append_right (by omega),Nat.add_sub_cancel,List.getElem?_map,h.row i q l hq hl]
  simp only [Option.map_some,ren_arr,ren_ints]
 nd:=by
  have e:(shR τ.length rs).map Prod.fst=(rs.map Prod.fst).map (· + τ.length):=by simp [shR,List.map_map,Function.comp_def]
  rw [e]
  exact List.Pairwise.map _ (fun a b (hab:a≠b)=>show a + τ.length≠b + τ.length by omega) h.nd
 ni:=by
  have e:(shR τ.length rs).map Prod.fst=(rs.map Prod.fst).map (· + τ.length):=by simp [shR,List.map_map,Function.comp_def]
  rw [e]
  intro hm
  obtain ⟨x,hx,hxe⟩:=List.mem_map.1 hm
  have:x=id:=by omega
  exact h.ni (this ▸ hx)
theorem TabAt.keep (h:TabAt e2 e1 σ id ver rs t) {σ':Heap} (h1:σ'[id]? = σ[id]?) (h2:∀ r∈rs,σ'[r.1]? = σ[r.1]?):TabAt e2 e1 σ' id ver rs t where
 out:=h1.trans h.out
 len:=h.len
 row:=fun i r l hr hl=>(h2 r (List.mem_of_getElem? hr)).trans (h.row i r l hr hl)
 nd:=h.nd
 ni:=h.ni
theorem TabAt.set (h:TabAt e2 e1 σ id ver rs t) {i:Nat} {r:Nat × Nat} (hr:rs[i]? = some r) {l m:List Int} (hl:t[i]? = some l) (hm:m.length=l.length):TabAt e2 e1 (σ.set r.1 (.arr r.2 e1 1 (ints m))) id ver rs (t.set i m):=by
 have hrm:r.1∈rs.map Prod.fst:=List.mem_map.2 ⟨r,List.mem_of_getElem? hr,rfl⟩
 have hit:=(List.getElem?_eq_some_iff.1 hl).1
 refine ⟨?_,by rw [List.length_set]; exact h.len,fun j q n hq hn=>?_,h.nd,h.ni⟩
 ·rw [List.getElem?_set_ne (fun e:r.1=id=>h.ni (by rw [← e]; exact hrm)),h.out]
  congr 2
  apply List.ext_getElem?
  intro j
  simp only [refs,List.getElem?_zipWith,List.getElem?_set]
  by_cases e:i=j
  ·subst e
   rw [if_pos rfl,if_pos hit,hr,hl]
   simp [hm]
  ·rw [if_neg e]
 ·by_cases e:i=j
  ·subst e
   rw [hr] at hq; cases hq
   rw [List.getElem?_set_self hit] at hn; cases hn
   rw [List.getElem?_set_self (List.getElem?_eq_some_iff.1 (h.row i r l hr hl)).1]
  ·rw [List.getElem?_set_ne e] at hn
   have hne:r.1≠q.1:=fun e2=>by
    have hi:=(List.getElem?_eq_some_iff.1 hr)
    have hj:=(List.getElem?_eq_some_iff.1 hq)
    have:=(List.getElem_inj (h₀:=by simpa using hi.1) (h₁:=by simpa using hj.1) h.nd).1 (by simp [hi.2,hj.2,e2])
    exact e this
   rw [List.getElem?_set_ne hne]
   exact h.row j q n hq hn
theorem TabAt.lt (h:TabAt e2 e1 σ id ver rs t):id < σ.length∧∀ r∈rs,r.1 < σ.length:=by
 refine ⟨(List.getElem?_eq_some_iff.1 h.out).1,fun r hr=>?_⟩
 obtain ⟨i,hi⟩:=List.getElem?_of_mem hr
 have hlt:=(List.getElem?_eq_some_iff.1 hi).1
 exact (List.getElem?_eq_some_iff.1 (h.row i r (t[i]'(h.len ▸ hlt)) hi (List.getElem?_eq_getElem (h.len ▸ hlt)))).1
def NewT (P:Program) (f:FuncId) (args:List PV) (e2 e1:TypeId) (T:List (List Int)) (r:Int):Prop :=
 ACall P f args [] fun v s=>∃ id ver rs,v = .tup [.ref id ver 0 T.length,.int .i64 r]∧TabAt e2 e1 s id ver rs T∧∀ o∈s,o.free
theorem shR_ge {n:Nat} {rs:List (Nat × Nat)}:∀ r∈shR n rs,n≤r.1:=fun r hr=>by
 simp only [shR,List.mem_map] at hr
 obtain ⟨q,_,rfl⟩:=hr
 simp
theorem NewT.call {P:Program} {f:FuncId} {args:List PV} {T:List (List Int)} {r:Int} (h:NewT P f args e2 e1 T r) {σ:Heap} {K:PV→Heap→Prop} (ha:∀ a∈args,PV.upto 0 a)
  (hk:∀ (id ver:Nat) (rs:List (Nat × Nat)) (s:Heap),TabAt e2 e1 (σ ++ s) id ver rs T→σ.length≤id→(∀ r∈rs,σ.length≤r.1)→K (.tup [.ref id ver 0 T.length,.int .i64 r]) (σ ++ s)):ACall P f args σ K:=by
 refine ACall.frame h ha fun v s ⟨id,ver,rs,hv,hT,_⟩=>?_
 subst hv
 have:=hk _ _ _ _ (hT.shift σ) (by omega) shR_ge
 simpa only [ren_tup,ren_ref,ren_int,List.map_cons,List.map_nil,sh_def] using this
theorem NewT.lend {P:Program} {f:FuncId} {args args':List PV} {T:List (List Int)} {r:Int} (h:NewT P f args' e2 e1 T r) {σ:Heap} {K:PV→Heap→Prop} (ha:ImmL σ args args')
  (hk:∀ (id ver:Nat) (rs:List (Nat × Nat)) (s:Heap),TabAt e2 e1 (σ ++ s) id ver rs T→σ.length≤id→(∀ r∈rs,σ.length≤r.1)→K (.tup [.ref id ver 0 T.length,.int .i64 r]) (σ ++ s)):ACall P f args σ K:=by
 refine ACall.lend h ha fun v s ⟨id,ver,rs,hv,hT,hf⟩=>?_
 subst hv
 refine ⟨⟨free_tup fun c hc=>?_,hf⟩,?_⟩
 ·simp only [List.mem_cons,List.not_mem_nil,or_false] at hc
  rcases hc with rfl | rfl
  ·exact free_ref _ _ _ _
  ·exact (Plain.int _ _).fr
 ·have:=hk _ _ _ _ (hT.shift σ) (by omega) shR_ge
  simpa only [ren_tup,ren_ref,ren_int,List.map_cons,List.map_nil,sh_def] using this
end Go.Kv
end
section
namespace Go.Proofs.YtcfmmmloeaggmaaGreat
open Go.Kv
set_option linter.unusedVariables false
set_option linter.unusedSimpArgs false
attribute [local irreducible] ACall PCall KL
inductive OwnT (e2 e1:TypeId) (σ:Heap) (lo hi:Nat):PV→List (List Int)→Prop
 | nil:OwnT e2 e1 σ lo hi .nils []
 | tab (id ver:Nat) (rs:List Rw) (t:List (List Int)) (h:TabG e2 e1 σ id ver rs t) (h1:lo≤id∧id<hi) (h2:∀ r∈rs,r.nil=false→lo≤r.id∧r.id<hi):OwnT e2 e1 σ lo hi (.ref id ver 0 t.length) t
inductive OwnI (e:TypeId) (σ:Heap) (lo hi:Nat):PV→List Int→Prop
 | nil:OwnI e σ lo hi .nils []
 | own (id ver:Nat) (pre l post:List Int) (h:σ[id]? = some (.arr ver e 1 (ints (pre ++ l ++ post)))) (h1:lo≤id∧id<hi):OwnI e σ lo hi (.ref id ver pre.length l.length) l
variable {e2 e1 e:TypeId} {σ:Heap} {lo hi:Nat} {x:PV} {t:List (List Int)} {l:List Int}
theorem OwnT.imm (h:OwnT e2 e1 σ lo hi x t):Imm σ x (.list (rows t)):=by
 cases h with
 | nil=>exact .nils
 | tab id ver rs t h _ _=>exact h.imm rfl
theorem OwnI.imm (h:OwnI e σ lo hi x l):Imm σ x (.list (ints l)):=by
 cases h with
 | nil=>exact .nils
 | own id ver pre l post h _=>exact .refp h rfl rfl
theorem OwnT.keep (h:OwnT e2 e1 σ lo hi x t) {σ':Heap} (hk:∀ j,lo≤j→j<hi→σ'[j]? = σ[j]?):OwnT e2 e1 σ' lo hi x t:=by
 cases h with
 | nil=>exact .nil
 | tab id ver rs t h h1 h2=>exact .tab id ver rs t (h.keep (hk id h1.1 h1.2) fun r hr hn=>hk _ (h2 r hr hn).1 (h2 r hr hn).2) h1 h2
theorem OwnI.keep (h:OwnI e σ lo hi x l) {σ':Heap} (hk:∀ j,lo≤j→j<hi→σ'[j]? = σ[j]?):OwnI e σ' lo hi x l:=by
 cases h with
 | nil=>exact .nil
 | own id ver pre l post h h1=>exact .own id ver pre l post ((hk id h1.1 h1.2).trans h) h1
theorem OwnT.shift (h:OwnT e2 e1 σ lo hi x t) (τ:Heap):OwnT e2 e1 (τ ++ σ.map (AObj.ren (Kv.sh τ.length))) (lo + τ.length) (hi + τ.length) (x.ren (Kv.sh τ.length)) t:=by
 cases h with
 | nil=>simp only [ren_nils]; exact .nil
 | tab id ver rs t h h1 h2 =>
  simp only [ren_ref,sh_def]
  refine .tab _ _ _ t (h.shift τ) (by omega) fun r hr hn=>?_
  obtain ⟨q,hq,rfl⟩:=List.mem_map.1 hr
  have:=h2 q hq hn
  simp only [Rw.sh]; omega
theorem OwnI.shift (h:OwnI e σ lo hi x l) (τ:Heap):OwnI e (τ ++ σ.map (AObj.ren (Kv.sh τ.length))) (lo + τ.length) (hi + τ.length) (x.ren (Kv.sh τ.length)) l:=by
 cases h with
 | nil=>simp only [ren_nils]; exact .nil
 | own id ver pre l post h h1 =>
  simp only [ren_ref,sh_def]
  refine .own _ ver pre l post ?_ (by omega)
  rw [List.getElem?_append_right (by omega),Nat.add_sub_cancel,List.getElem?_map,h]
  simp only [Option.map_some,ren_arr,ren_ints]
theorem OwnT.fr (h:OwnT e2 e1 σ lo hi x t):x.free:=by
 cases h with
 | nil=>exact Plain.nils.fr
 | tab id ver rs t h _ _=>exact free_ref _ _ _ _
theorem OwnI.fr (h:OwnI e σ lo hi x l):x.free:=by
 cases h with
 | nil=>exact Plain.nils.fr
 | own id ver pre l post h _=>exact free_ref _ _ _ _
def NewTO (P:Program) (f:FuncId) (args:List PV) (e2 e1:TypeId) (T:List (List Int)) (r:Int):Prop :=
 ACall P f args [] fun v s=>∃ x,v = .tup [x,.int .i64 r]∧OwnT e2 e1 s 0 s.length x T∧Free s
def NewIO (P:Program) (f:FuncId) (args:List PV) (e:TypeId) (l:List Int) (r:Int):Prop :=
 ACall P f args [] fun v s=>∃ x,v = .tup [x,.int .i64 r]∧OwnI e s 0 s.length x l∧Free s
theorem NewTN.own {P:Program} {f:FuncId} {args:List PV} {T:List (List Int)} {r:Int} (h:NewTN P f args e2 e1 T r):NewTO P f args e2 e1 T r :=
 ACall.mono h fun v s ⟨x,hv,hT,hf⟩=>⟨x,hv,(by
  cases hT with
  | nil=>exact .nil
  | tab id ver rs _ h=>exact .tab id ver rs _ h ⟨Nat.zero_le _,h.lt.1⟩ fun r hr hn=>⟨Nat.zero_le _,h.lt.2 r hr hn⟩),hf⟩
theorem NewI.own {P:Program} {f:FuncId} {args:List PV} {l:List Int} {r:Int} (h:NewI P f args e l r):NewIO P f args e l r :=
 ACall.mono h fun v s ⟨ver,pre,post,hv,hs⟩=>⟨_,hv,hs ▸ .own 0 ver pre l post rfl ⟨Nat.zero_le _,by simp⟩,hs ▸ .ints _ _ _ _⟩
theorem NewTO.frozen {P:Program} {f:FuncId} {args:List PV} {T:List (List Int)} {r:Int} (h:NewTO P f args e2 e1 T r):Pure P f args (.tup [.list (rows T),.int .i64 r]) :=
 ACall.ret h fun v s ⟨x,hv,hT,_⟩=>by
  subst hv
  exact Fin.freeze (Imm.tupL (.cons hT.imm (.cons (.int _ _ _) (.nil _)))) ⟨rfl,rfl⟩
theorem NewIO.frozen {P:Program} {f:FuncId} {args:List PV} {l:List Int} {r:Int} (h:NewIO P f args e l r):Pure P f args (.tup [.list (ints l),.int .i64 r]) :=
 ACall.ret h fun v s ⟨x,hv,hT,_⟩=>by
  subst hv
  exact Fin.freeze (Imm.tupL (.cons hT.imm (.cons (.int _ _ _) (.nil _)))) ⟨rfl,rfl⟩
theorem NewTO.lend {P:Program} {f:FuncId} {args args':List PV} {T:List (List Int)} {r:Int} (h:NewTO P f args' e2 e1 T r) {σ:Heap} {K:PV→Heap→Prop} (ha:ImmL σ args args')
  (hk:∀ (x:PV) (σ':Heap),OwnT e2 e1 σ' σ.length σ'.length x T→(∀ j,j < σ.length→σ'[j]? = σ[j]?)→σ.length≤σ'.length→K (.tup [x,.int .i64 r]) σ'):ACall P f args σ K:=by
 refine ACall.lend h ha fun v s ⟨x,hv,hT,hf⟩=>?_
 subst hv
 refine ⟨⟨free_tup fun c hc=>?_,hf⟩,?_⟩
 ·simp only [List.mem_cons,List.not_mem_nil,or_false] at hc
  rcases hc with rfl | rfl
  ·exact hT.fr
  ·exact (Plain.int _ _).fr
 ·have h1:=hT.shift σ
  have e:(σ ++ s.map (AObj.ren (Kv.sh σ.length))).length=s.length + σ.length:=by simp; omega
  rw [Nat.zero_add,← e] at h1
  have:=hk _ _ h1 (fun j hj=>List.getElem?_append_left hj) (by simp)
  simpa only [ren_tup,ren_int,List.map_cons,List.map_nil] using this
theorem NewIO.lend {P:Program} {f:FuncId} {args args':List PV} {l:List Int} {r:Int} (h:NewIO P f args' e l r) {σ:Heap} {K:PV→Heap→Prop} (ha:ImmL σ args args')
  (hk:∀ (x:PV) (σ':Heap),OwnI e σ' σ.length σ'.length x l→(∀ j,j < σ.length→σ'[j]? = σ[j]?)→σ.length≤σ'.length→K (.tup [x,.int .i64 r]) σ'):ACall P f args σ K:=by
 refine ACall.lend h ha fun v s ⟨x,hv,hT,hf⟩=>?_
 subst hv
 refine ⟨⟨free_tup fun c hc=>?_,hf⟩,?_⟩
 ·simp only [List.mem_cons,List.not_mem_nil,or_false] at hc
  rcases hc with rfl | rfl
  ·exact hT.fr
  ·exact (Plain.int _ _).fr
 ·have h1:=hT.shift σ
  have e:(σ ++ s.map (AObj.ren (Kv.sh σ.length))).length=s.length + σ.length:=by simp; omega
  rw [Nat.zero_add,← e] at h1
  have:=hk _ _ h1 (fun j hj=>List.getElem?_append_left hj) (by simp)
  simpa only [ren_tup,ren_int,List.map_cons,List.map_nil] using this
end Go.Proofs.YtcfmmmloeaggmaaGreat
end
section
namespace Go.Proofs.YtcfmmmloeaggmaaGreat
open Go.Kv
set_option linter.unusedVariables false
set_option linter.unusedSimpArgs false
attribute [local irreducible] ACall PCall KL
inductive OwnA (e:TypeId) (σ:Heap) (lo hi:Nat):PV→List (List Int)→Prop
 | nil:OwnA e σ lo hi .nils []
 | own (id ver:Nat) (l post:List (List Int)) (h:σ[id]? = some (.arr ver e 6 (aggs (l ++ post)))) (h6:∀ r∈l,r.length=6) (h1:lo≤id∧id<hi):OwnA e σ lo hi (.ref id ver 0 l.length) l
variable {e:TypeId} {σ:Heap} {lo hi:Nat} {x:PV} {l:List (List Int)}
theorem Imm.refap {σ:Heap} {id ver n:Nat} {e:TypeId} {l post:List (List Int)} (h:σ[id]? = some (.arr ver e 6 (aggs (l ++ post)))) (h6:∀ r∈l,r.length=6) (hn:n=l.length):Imm σ (.ref id ver 0 n) (.list (aggs l)):=by
 subst hn
 have hg:∀ (i:Nat) (x d:PV),(aggs (l ++ post))[i]? = some x→(aggs l)[i]? = some d→x=d:=fun i x d hx hd=>by
  have hlt:=(List.getElem?_eq_some_iff.1 hd).1
  rw [← aggs_append,List.getElem?_append_left hlt,hd] at hx
  exact (Option.some.inj hx).symm
 refine .ref id ver 0 l.length e 6 (aggs (l ++ post)) (aggs l) h (by simp [aggs_length]) (aggs_length l) (fun i x d hx hd=>?_) (fun i x d j c c' hx hd hc hc'=>?_)
 ·rw [Nat.zero_add] at hx
  obtain rfl:=hg i x d hx hd
  obtain ⟨y,hy,rfl⟩:=aggs_get hd
  exact ⟨rfl,ints_ok y⟩
 ·rw [Nat.zero_add] at hx
  obtain rfl:=hg i x d hx hd
  obtain ⟨y,_,rfl⟩:=aggs_get hd
  rw [hc] at hc'; cases hc'
  exact .refl _ ((Plain.ints y c (List.mem_of_getElem? hc)).up)
theorem OwnA.imm (h:OwnA e σ lo hi x l):Imm σ x (.list (aggs l)):=by
 cases h with
 | nil=>exact .nils
 | own id ver l post h h6 _=>exact Imm.refap h h6 rfl
theorem OwnA.keep (h:OwnA e σ lo hi x l) {σ':Heap} (hk:∀ j,lo≤j→j<hi→σ'[j]? = σ[j]?):OwnA e σ' lo hi x l:=by
 cases h with
 | nil=>exact .nil
 | own id ver l post h h6 h1=>exact .own id ver l post ((hk id h1.1 h1.2).trans h) h6 h1
theorem OwnA.shift (h:OwnA e σ lo hi x l) (τ:Heap):OwnA e (τ ++ σ.map (AObj.ren (Kv.sh τ.length))) (lo + τ.length) (hi + τ.length) (x.ren (Kv.sh τ.length)) l:=by
 cases h with
 | nil=>simp only [ren_nils]; exact .nil
 | own id ver l post h h6 h1 =>
  simp only [ren_ref,sh_def]
  refine .own _ ver l post ?_ h6 (by omega)
  rw [List.getElem?_append_right (by omega),Nat.add_sub_cancel,List.getElem?_map,h]
  simp only [Option.map_some,ren_arr,ren_aggs]
theorem OwnA.fr (h:OwnA e σ lo hi x l):x.free:=by
 cases h with
 | nil=>exact Plain.nils.fr
 | own id ver l post h _ _=>exact free_ref _ _ _ _
theorem free_aggs {v:Nat} {e:TypeId} {s:Nat} (l:List (List Int)):AObj.free (.arr v e s (aggs l)):=fun c hc=>(flat_aggs c hc).fr
theorem Free.aggs (v:Nat) (e:TypeId) (s:Nat) (l:List (List Int)):Free [.arr v e s (Kv.aggs l)]:=fun o ho=>by
 simp at ho; subst ho; exact free_aggs l
def NewAO (P:Program) (f:FuncId) (args:List PV) (e:TypeId) (l:List (List Int)) (r:Int):Prop :=
 ACall P f args [] fun v s=>∃ x,v = .tup [x,.int .i64 r]∧OwnA e s 0 s.length x l∧Free s
theorem NewAO.frozen {P:Program} {f:FuncId} {args:List PV} {r:Int} (h:NewAO P f args e l r):Pure P f args (.tup [.list (aggs l),.int .i64 r]) :=
 ACall.ret h fun v s ⟨x,hv,hT,_⟩=>by
  subst hv
  exact Fin.freeze (Imm.tupL (.cons hT.imm (.cons (.int _ _ _) (.nil _)))) ⟨rfl,rfl⟩
theorem NewAO.lend {P:Program} {f:FuncId} {args args':List PV} {r:Int} (h:NewAO P f args' e l r) {σ:Heap} {K:PV→Heap→Prop} (ha:ImmL σ args args')
  (hk:∀ (x:PV) (σ':Heap),OwnA e σ' σ.length σ'.length x l→(∀ j,j < σ.length→σ'[j]? = σ[j]?)→σ.length≤σ'.length→K (.tup [x,.int .i64 r]) σ'):ACall P f args σ K:=by
 refine ACall.lend h ha fun v s ⟨x,hv,hT,hf⟩=>?_
 subst hv
 refine ⟨⟨free_tup fun c hc=>?_,hf⟩,?_⟩
 ·simp only [List.mem_cons,List.not_mem_nil,or_false] at hc
  rcases hc with rfl | rfl
  ·exact hT.fr
  ·exact (Plain.int _ _).fr
 ·have h1:=hT.shift σ
  have e:(σ ++ s.map (AObj.ren (Kv.sh σ.length))).length=s.length + σ.length:=by simp; omega
  rw [Nat.zero_add,← e] at h1
  have:=hk _ _ h1 (fun j hj=>List.getElem?_append_left hj) (by simp)
  simpa only [ren_tup,ren_int,List.map_cons,List.map_nil] using this
end Go.Proofs.YtcfmmmloeaggmaaGreat
end
section
namespace Go.Proofs.YtcfmmmloeaggmaaGreat
open Go.Kv
set_option maxRecDepth 100000
def k83:KC:=(.seq (.ops [oP 2 (.mv (iC 0))])
 (.seq (.ops [mV 3 0,oP 4 (.call (fC 152) [(.t 3)]),oP 5 (.bin .add (.t 4) (iC 1)),mV 2 5])
 .ret))
theorem e83:Ent 83 6 [] [.t 2] k83:=ent Tryz.func83
def k88_b0:KC:=(.seq (.seq (.ops [mV 5 4,mV 6 0,oP 7 (.len false (.t 6)),oP 8 (.bin .lss (.t 5) (.t 7))])
 (.cond (.t 8) .skip (.exit 0)))
 (.seq (.block 1 (.ops [mV 11 3,mV 12 0,mV 13 4,oP 14 (.idxS 1 (.t 12) (.t 13)),oP 15 (.load false 1 (.t 14)),oP 16 (.mnmx true (.t 11) [(.t 15)]),mV 3 16]))
 (.ops [mV 9 4,oP 10 (.bin .add (.t 9) (iC 1)),mV 4 10])))
def k88:KC:=(.seq (.ops [oP 2 (.mv (iC 0))])
 (.seq (.ops [oP 3 (.mv (iC (-1)))])
 (.seq (.seq (.ops [oP 4 (.mv (iC 0))])
 (.block 0 (.loop k88_b0)))
 (.seq (.ops [mV 17 3,oP 18 (.bin .add (.t 17) (iC 1)),mV 2 18])
 .ret))))
theorem e88:Ent 88 19 [] [.t 2] k88:=ent Tryz.func88
def k108_b0:KC:=(.seq (.seq (.ops [mV 8 4,mV 9 0,oP 10 (.len false (.t 9)),oP 11 (.bin .lss (.t 8) (.t 10))])
 (.cond (.t 11) .skip (.exit 0)))
 (.seq (.block 1 (.ops [mV 14 4,mV 15 0,mV 16 4,oP 17 (.idxS 1 (.t 15) (.t 16)),oP 18 (.load false 1 (.t 17)),oP 19 (.fieldA 1 (.t 3)),oP 20 (.idxA 5 1 (.t 19) (.t 14)),⟨none,none,.store 1 (.t 20) (.t 18)⟩]))
 (.ops [mV 12 4,oP 13 (.bin .add (.t 12) (iC 1)),mV 4 13])))
def k108:KC:=(.seq (.ops [oP 2 (.alloc [.int .i64 0,.int .i64 0,.int .i64 0,.int .i64 0,.int .i64 0,.int .i64 0])])
 (.seq (.ops [mV 5 0,oP 6 (.len false (.t 5)),oP 7 (.build [.int .i64 0,.int .i64 0,.int .i64 0,.int .i64 0,.int .i64 0,.int .i64 0] [(0,1,(.t 6))]),oP 3 (.alloc [.int .i64 0,.int .i64 0,.int .i64 0,.int .i64 0,.int .i64 0,.int .i64 0]),⟨none,none,.store 6 (.t 3) (.t 7)⟩])
 (.seq (.seq (.ops [oP 4 (.mv (iC 0))])
 (.block 0 (.loop k108_b0)))
 (.seq (.ops [oP 21 (.load true 6 (.t 3)),⟨none,none,.store 6 (.t 2) (.t 21)⟩])
 .ret))))
theorem e108:Ent 108 22 [] [.cell 2 true 6] k108:=ent Tryz.func108
def k152_b0:KC:=(.seq (.seq (.ops [mV 12 4,mV 13 0,oP 14 (.len false (.t 13)),oP 15 (.bin .lss (.t 12) (.t 14))])
 (.cond (.t 15) .skip (.exit 0)))
 (.seq (.block 1 (.ops [mV 18 3,mV 19 0,mV 20 4,oP 21 (.idxS 1 (.t 19) (.t 20)),oP 22 (.load false 1 (.t 21)),oP 23 (.mnmx true (.t 18) [(.t 22)]),mV 3 23]))
 (.ops [mV 16 4,oP 17 (.bin .add (.t 16) (iC 1)),mV 4 17])))
def k152:KC:=(.seq (.ops [oP 2 (.mv (iC 0))])
 (.seq (.seq (.ops [mV 5 0,oP 6 (.len false (.t 5)),oP 7 (.bin .lss (.t 6) (iC 1))])
 (.cond (.t 7) (.ops [oP 8 (.bad),⟨none,none,.bad⟩]) .skip))
 (.seq (.ops [mV 9 0,oP 10 (.idxS 1 (.t 9) (iC 0)),oP 11 (.load false 1 (.t 10)),mV 3 11])
 (.seq (.seq (.ops [oP 4 (.mv (iC 1))])
 (.block 0 (.loop k152_b0)))
 (.seq (.ops [mV 24 3,mV 2 24])
 .ret)))))
theorem e152:Ent 152 25 [] [.t 2] k152:=ent Tryz.func152
end Go.Proofs.YtcfmmmloeaggmaaGreat
namespace Go.Proofs.YtcfmmmloeaggmaaGreat
open Go.Kv
set_option linter.unusedVariables false
set_option linter.unusedSimpArgs false
attribute [local irreducible] ACall PCall KL
def mxl (P:List Int):Int:=P.foldl max (-1)
theorem mxl_snoc (P:List Int) (k:Int):mxl (P ++ [k])=max (mxl P) k:=by simp [mxl]
theorem foldl_max_ge:∀ (P:List Int) (v:Int),v≤P.foldl max v∧∀ k∈P,k≤P.foldl max v
 | [],v=>⟨Int.le_refl _,by simp⟩
 | a :: r,v=>by
  obtain ⟨h1,h2⟩:=foldl_max_ge r (max v a)
  simp only [List.foldl_cons]
  refine ⟨by omega,fun k hk=>?_⟩
  rcases List.mem_cons.1 hk with rfl | hk
  ·omega
  ·exact h2 k hk
theorem mxl_le {P:List Int} {b:Int} (h:∀ k∈P,k≤b) (h0:-1≤b):mxl P≤b:=by
 have:∀ (P:List Int) (v:Int),v≤b→(∀ k∈P,k≤b)→P.foldl max v≤b:=fun P=>by
  induction P with
  | nil=>intro v h _; exact h
  | cons a r ih=>intro v hv hr; exact ih _ (by have:=hr a (by simp); omega) fun k hk=>hr k (by simp [hk])
 exact this P _ h0 h
theorem p152 (P:List Int) (h1:1≤P.length) (hl:P.length≤1048576) (h0:∀ k∈P,0≤k):Pure Tryz.prog 152 [.list (ints P)] (.int .i64 (mxl P)):=by
 have h01:0<P.length:=by omega
 have hP0:0≤P[0]:=h0 _ (List.getElem_mem h01)
 refine e152 (by simp) fun _ _=>?_
 simp only [k152,argEnv,go_sem]
 refine ⟨fun h=>absurd h (by omega),fun _=>⟨by omega,fun _=>?_⟩⟩
 rw [getD_eq h01]
 have e0:mxl (P.take 1)=P[0]:=by
  rw [show P.take 1 = [] ++ [P[0]] from by rw [List.take_succ_eq_append_getElem h01]; rfl,mxl_snoc]
  simp [mxl]; omega
 refine KL_ind k152_b0.eq_1 (fun x:Nat=>[(0,.list (ints P)),(3,.int .i64 (mxl (P.take x))),(4,.int .i64 x)]) (fun _=>[]) (fun x=>1≤x∧x≤P.length) (fun x=>P.length - x) [0,3,4] 1 (by simp [keep,e0]) rfl ⟨Nat.le_refl _,by omega⟩ fun x ⟨hx1,hx⟩ ih=>?_
 try simp only [go_sem]
 refine ⟨fun h3=>⟨by omega,fun h4=>?_⟩,fun h3=>?_⟩
 ·rw [getD_eq h4]
  try simp only [mnmxV,if_true]
  try simp only [go_sem]
  refine ⟨by omega,?_⟩
  refine ih (x+1) ⟨by omega,by omega⟩ (by omega) _ _ ?_ rfl
  rw [List.take_succ_eq_append_getElem h4,mxl_snoc]
  simp [keep]
 ·obtain rfl:x=P.length:=by omega
  rw [List.take_length]
  exact Kv.Fin.still ⟨rfl,rfl⟩
theorem p83 (P:List Int) (h1:1≤P.length) (hl:P.length≤1048576) (h0:∀ k∈P,0≤k) (hm:mxl P≤1048576):Pure Tryz.prog 83 [.list (ints P)] (.int .i64 (mxl P+1)):=by
 have:=(foldl_max_ge P (-1)).1
 have hm1:-1≤mxl P:=this
 refine e83 (by simp) fun _ _=>?_
 simp only [k83,argEnv,go_sem]
 refine (p152 P h1 hl h0).go ?_
 try simp only [go_sem]
 repeat' (first | refine And.intro ?_ ?_ | intro _)
 all_goals (try omega)
 exact Kv.Fin.still ⟨rfl,rfl⟩
theorem p88 (P:List Int) (hl:P.length≤1048576) (hm:mxl P≤1048576):Pure Tryz.prog 88 [.list (ints P)] (.int .i64 (mxl P+1)):=by
 have hm1:-1≤mxl P:=(foldl_max_ge P (-1)).1
 refine e88 (by simp) fun _ _=>?_
 simp only [k88,argEnv,go_sem]
 refine KL_ind k88_b0.eq_1 (fun x:Nat=>[(0,.list (ints P)),(3,.int .i64 (mxl (P.take x))),(4,.int .i64 x)]) (fun _=>[]) (fun x=>x≤P.length) (fun x=>P.length - x) [0,3,4] 0 (by rfl) rfl (Nat.zero_le _) fun x hx ih=>?_
 try simp only [go_sem]
 refine ⟨fun h3=>⟨by omega,fun h4=>?_⟩,fun h3=>?_⟩
 ·rw [getD_eq h4]
  try simp only [mnmxV,if_true]
  try simp only [go_sem]
  refine ⟨by omega,?_⟩
  refine ih (x+1) (by omega) (by omega) _ _ ?_ rfl
  rw [List.take_succ_eq_append_getElem h4,mxl_snoc]
  simp [keep]
 ·obtain rfl:x=P.length:=by omega
  rw [List.take_length]
  repeat' (first | refine And.intro ?_ ?_ | intro _)
  all_goals (try omega)
  exact Kv.Fin.still ⟨rfl,rfl⟩
theorem natD (l:List Nat) (x:Nat):(l.map fun x:Nat=>(x:Int)).getD x 0=(l.getD x 0:Int):=by
 simp only [List.getD_eq_getElem?_getD,List.getElem?_map]
 cases l[x]? <;> rfl
theorem p108 (l:List Nat) (hl:l.length≤5):Pure Tryz.prog 108 [.list (ints (l.map fun x:Nat=>(x:Int)))] (.agg (ints (mp l))):=by
 refine e108 (by simp) fun _ _=>?_
 simp only [k108,argEnv,List.length_map,go_sem]
 refine KL_ind k108_b0.eq_1 (fun x:Nat=>[(0,.list (ints (l.map fun x:Nat=>(x:Int)))),(2,.ptr 0 0),(3,.ptr 1 0),(4,.int .i64 x)]) (fun x=>[.box (ints [0,0,0,0,0,0]),.box (ints (mpN l.length (l.take x)))]) (fun x=>x≤l.length) (fun x=>l.length - x) [0,2,3,4] 0 (by rfl) (by rfl) (Nat.zero_le _) fun x hx ih=>?_
 have h6:(mpN (l.length:Int) (l.take x)).length=6:=mpN_length (by simp; omega)
 try simp only [h6,List.length_map,go_sem]
 refine ⟨fun h3=>?_,fun h3=>?_⟩
 ·refine ⟨by omega,fun h4=>⟨by omega,by omega,by omega,?_⟩⟩
  refine ih (x+1) (by omega) (by omega) _ _ (by rfl) ?_
  rw [natD,mpN_pushI (by simp; omega) (by simp; omega),List.take_succ_eq_append_getElem h4,getD_eq h4]
 ·obtain rfl:x=l.length:=by omega
  rw [List.take_length]
  exact Kv.Fin.still ⟨rfl,rfl⟩
def st (Q f:List Nat) (c x:Nat):List Nat:=(List.range x).foldl (fun s p=>s.set (Q.getD p 0) (Q.getD (f.getD p 0) 0)) (List.replicate c 0)
theorem st_zero (Q f:List Nat) (c:Nat):st Q f c 0=List.replicate c 0:=rfl
theorem st_succ (Q f:List Nat) (c x:Nat):st Q f c (x+1)=(st Q f c x).set (Q.getD x 0) (Q.getD (f.getD x 0) 0):=by simp [st,List.range_succ]
@[simp] theorem st_length (Q f:List Nat) (c:Nat):∀ x,(st Q f c x).length=c
 | 0=>by simp [st_zero]
 | x+1=>by rw [st_succ,List.length_set,st_length Q f c x]
def lcl (Q:List Nat) (c:Nat) (fs:List (List Nat)):List (List Int):=fs.map fun f=>mp (st Q f c Q.length)
@[simp] theorem lcl_length (Q:List Nat) (c:Nat) (fs:List (List Nat)):(lcl Q c fs).length=fs.length:=by simp [lcl]
end Go.Proofs.YtcfmmmloeaggmaaGreat
end
section
namespace Go.Proofs.YtcfmmmloeaggmaaGreat
open Go.Kv
set_option maxRecDepth 100000
def k78:KC:=(.seq (.ops [oP 4 (.mv (.c (.bool false)))])
 (.seq (.ops [mV 5 0,mV 6 1,oP 7 (.call (fC 144) [(.t 5),(.t 6)]),oP 8 (.bin .geq (.t 7) (iC 0)),mV 4 8])
 .ret))
theorem e78:Ent 78 9 [] [.t 4] k78:=ent Tryz.func78
def k144_b0:KC:=(.seq (.ops [oP 9 (.bin .lss (.t 8) (.t 7))])
 (.seq (.cond (.t 9) .skip (.exit 0))
 (.seq (.block 1 (.seq (.ops [mV 10 8,mV 5 10])
 (.seq (.ops [mV 11 1,mV 12 0,mV 13 5,oP 14 (.idxS 1 (.t 12) (.t 13)),oP 15 (.load false 1 (.t 14)),oP 16 (.call (.t 11) [(.t 15)])])
 (.cond (.t 16) (.seq (.ops [mV 17 5,mV 4 17])
 .ret) .skip))))
 (.ops [oP 18 (.bin .add (.t 8) (iC 1)),mV 8 18]))))
def k144:KC:=(.seq (.ops [oP 4 (.mv (iC 0))])
 (.seq (.seq (.ops [mV 6 0,oP 7 (.len false (.t 6)),oP 8 (.mv (iC 0))])
 (.block 0 (.loop k144_b0)))
 (.seq (.ops [oP 4 (.mv (iC (-1)))])
 .ret)))
theorem e144:Ent 144 19 [] [.t 4] k144:=ent Tryz.func144
end Go.Proofs.YtcfmmmloeaggmaaGreat
namespace Go.Proofs.YtcfmmmloeaggmaaGreat
open Go.Kv
set_option linter.unusedVariables false
set_option linter.unusedSimpArgs false
attribute [local irreducible] ACall PCall KL
theorem p144 (l:List Int) (hl:l.length≤4294967296) (fid:FuncId) (caps:List PV) (hc:∀ c∈caps,PV.upto 0 c) (p:Int→Bool) (hp:∀ x∈l,Pure Tryz.prog fid (.int .i64 x :: caps) (.bool (p x))) :
  Pure Tryz.prog 144 [.list (ints l),.fn (.func fid) [] caps] (.int .i64 (idx p l)):=by
 refine e144 (by simp) fun _ _=>?_
 simp only [k144,argEnv,go_sem,↓reduceIte,Nat.reduceEqDiff,Nat.reduceAdd,reduceCtorEq]
 refine KL_ind k144_b0.eq_1 (fun x:Nat=>[(8,.int .i64 x),(7,.int .i64 l.length),(0,.list (ints l)),(1,.fn (.func fid) [] caps)]) (fun _=>[]) (fun x=>x≤l.length∧(l.take x).any p=false) (fun x=>l.length - x) [8,7,0,1] 0 rfl rfl ⟨Nat.zero_le _,by simp⟩ fun x ⟨hx,hall⟩ ih=>?_
 simp only [go_sem,↓reduceIte,Nat.reduceEqDiff,Nat.reduceAdd,reduceCtorEq]
 refine ⟨fun h1=>⟨by omega,fun h2=>?_⟩,fun h1=>?_⟩
 ·rw [getD_eq h2]
  refine (hp _ (List.getElem_mem h2)).use (.bool _) (.cons (.int _ _ _) (up_self hc)) ?_
  simp only [go_sem,↓reduceIte,Nat.reduceEqDiff,Nat.reduceAdd,reduceCtorEq]
  refine ⟨fun h3=>?_,fun h3=>⟨by omega,?_⟩⟩
  ·exact Kv.Fin.now ⟨by rw [idx_some h2 hall h3],rfl⟩
  ·refine ih (x+1) ⟨by omega,?_⟩ (by omega) _ _ rfl rfl
   rw [any_take_succ _ h2,hall,h3]; rfl
 ·obtain rfl:x=l.length:=by omega
  rw [List.take_length] at hall
  exact Kv.Fin.now ⟨by rw [idx_none hall],rfl⟩
theorem p78 (l:List Int) (hl:l.length≤4294967296) (fid:FuncId) (caps:List PV) (hc:∀ c∈caps,PV.upto 0 c) (p:Int→Bool) (hp:∀ x∈l,Pure Tryz.prog fid (.int .i64 x :: caps) (.bool (p x))) :
  Pure Tryz.prog 78 [.list (ints l),.fn (.func fid) [] caps] (.bool (l.any p)):=by
 refine e78 (by simp) fun _ _=>?_
 simp only [k78,argEnv,go_sem,↓reduceIte,Nat.reduceEqDiff,Nat.reduceAdd,reduceCtorEq]
 refine (p144 l hl fid caps hc p hp).use (.int _ _) (.cons (.listi _ _) (.cons (Imm.fnc _ (up_self hc)) (.nil _))) ?_
 simp only [go_sem,↓reduceIte,Nat.reduceEqDiff,Nat.reduceAdd,reduceCtorEq]
 exact Kv.Fin.now ⟨by rw [idx_nonneg],rfl⟩
end Go.Proofs.YtcfmmmloeaggmaaGreat
end
section
namespace Go.Proofs.YtcfmmmloeaggmaaGreat
open Go.Kv
set_option linter.unusedVariables false
set_option linter.unusedSimpArgs false
attribute [local irreducible] ACall PCall KL
def tat (t:List (List Int)) (i j:Nat):Int:=(t.getD i []).getD j 0
end Go.Proofs.YtcfmmmloeaggmaaGreat
end
section
namespace Go.Proofs.YtcfmmmloeaggmaaGreat
open Go.Kv
set_option maxRecDepth 100000
def k117:KC:=(.seq (.ops [oP 2 (.mv (.c (.nils)))])
 (.seq (.ops [oP 3 (.bsl false 2 1 []),mV 4 0,oP 5 (.app (.t 3) (.t 4) 2 1),mV 2 5])
 .ret))
theorem e117:Ent 117 6 [] [.t 2] k117:=ent Tryz.func117
end Go.Proofs.YtcfmmmloeaggmaaGreat
namespace Go.Proofs.YtcfmmmloeaggmaaGreat
open Go.Kv
set_option linter.unusedVariables false
set_option linter.unusedSimpArgs false
attribute [local irreducible] ACall PCall KL
theorem p117 (l:List Int) (hl:l.length≤1048576):ACall Tryz.prog 117 [.list (ints l)] [] (fun v s=>v = .ref 0 1 0 l.length∧s = [.arr 1 2 1 (ints l)]):=by
 refine e117 (by simp) fun _ _=>?_
 simp only [k117,argEnv,go_sem]
 repeat' (first | refine And.intro ?_ ?_ | intro _)
 all_goals (try omega)
 exact Kv.Fin.now ⟨rfl,rfl⟩
end Go.Proofs.YtcfmmmloeaggmaaGreat
end
end
namespace Go.Proofs.YtcfmmmloeaggmaaGreat
open Go.Kv
set_option linter.unusedVariables false
set_option linter.unusedSimpArgs false
section
section
set_option maxRecDepth 100000
def k115:KC:=(.seq (.ops [oP 2 (.mv (.c (.nils)))])
 (.seq (.seq (.ops [mV 3 0,oP 4 (.isn false (.t 3))])
 (.cond (.t 4) (.seq (.ops [oP 2 (.mv (.c (.nils)))])
 .ret) .skip))
 (.seq (.ops [oP 5 (.bsl false 2 1 []),mV 6 0,oP 7 (.app (.t 5) (.t 6) 2 1),mV 2 7])
 .ret)))
theorem e115:Ent 115 8 [] [.t 2] k115:=ent Tryz.func115
end
section
attribute [local irreducible] ACall PCall KL
def ext (P:List Int) (k:Nat):List (List Int):=(List.range k).map fun c:Nat=>P ++ [(c:Int)]
@[simp] theorem ext_length (P:List Int) (k:Nat):(ext P k).length=k:=by simp [ext]
def okP (n:Nat) (P:List Int):Bool:=decide (P.length=n) && P.all (fun k=>decide (0≤k∧k≤4)) && decide (P.length=0∨0≤mxl P) && decide (mxl P≤4)
theorem HKv (σ:Heap) (K:PV→Heap→Prop) (v:PV):HK σ K v=K v σ:=Eq.trans rfl rfl
theorem p115P (l:List Int) (hl:l.length≤4294967296):ACall Tryz.prog 115 [.list (ints l)] [] (fun v s=>(v = .ref 0 1 0 l.length∧s = [.arr 1 2 1 (ints l)])∨(l = []∧v = .nils∧s = [])):=by
 cases l with
 | nil =>
  refine e115 (by simp) fun _ _=>?_
  simp only [k115,argEnv,go_sem]
  have e:∀ K:Bool→Prop,aIsn (.list (ints [])) K=(K true∧K false):=fun _=>rfl
  rw [e]
  exact ⟨⟨fun _=>Kv.Fin.now (.inr ⟨rfl,rfl⟩),fun h=>by cases h⟩,⟨fun h=>(by cases h),fun _=>Kv.Fin.now (.inl ⟨rfl,rfl⟩)⟩⟩
 | cons x l =>
  refine e115 (by simp) fun _ _=>?_
  simp only [k115,argEnv,go_sem]
  have e:∀ K:Bool→Prop,aIsn (.list (ints (x :: l))) K=K false:=fun _=>rfl
  rw [e]
  try simp only [go_sem]
  refine ⟨by simp at hl; omega,Kv.Fin.now (.inl ⟨rfl,?_⟩)⟩
  simp
end
end
section
section
attribute [local irreducible] ACall PCall KL
def Wd (σ:Heap) (A:Nat→Prop) (w:PV) (l:List Int):Prop:=(w = .nils∧l = [])∨∃ id ver,w = .ref id ver 0 l.length∧σ[id]? = some (.arr ver 2 1 (ints l))∧¬ A id
theorem Wd.imm {σ:Heap} {A:Nat→Prop} {w:PV} {l:List Int} (h:Wd σ A w l):Imm σ w (.list (ints l)):=by
 rcases h with ⟨rfl,rfl⟩ | ⟨id,ver,rfl,h,_⟩
 ·exact .nils
 ·exact .refi h
theorem Wd.keep {σ σ':Heap} {A A':Nat→Prop} {w:PV} {l:List Int} (h:Wd σ A w l) (hk:∀ id,id < σ.length→¬ A id→σ'[id]? = σ[id]?∧¬ A' id):Wd σ' A' w l:=by
 rcases h with ⟨rfl,rfl⟩ | ⟨id,ver,rfl,h,ha⟩
 ·exact .inl ⟨rfl,rfl⟩
 ·have:=hk id (List.getElem?_eq_some_iff.1 h).1 ha
  exact .inr ⟨id,ver,rfl,this.1.trans h,this.2⟩
theorem Wd.cs {σ:Heap} {A:Nat→Prop} {w:PV} {l:List Int} (h:Wd σ A w l):w.cs = [w]∧w.ok=true:=by
 rcases h with ⟨rfl,rfl⟩ | ⟨id,ver,rfl,h,ha⟩ <;> exact ⟨rfl,rfl⟩
end
end
end Go.Proofs.YtcfmmmloeaggmaaGreat
