/- A framework of this session's own: abstract values, heaps and code, sound for the machine's. Nothing here speaks of a program. -/
import Derived.Test.YtcfmmmloeaggmaaGreatFB
import Derived.Below
import Derived.ChangeSlices

/- Calls that hand back a plain value and leave the heap alone; results. -/
section
namespace Go.Kv
set_option linter.unusedVariables false
set_option linter.unusedSimpArgs false

structure Plain (c:PV):Prop where
 up:PV.upto 0 c
 fr:c.free
 rn:∀ f:Nat→Nat,c.ren f=c
theorem Plain.int (k:IntKind) (n:Int):Plain (.int k n):=⟨fun φ ι v h=>by cases h; exact .int _ _,fun φ φ' ι v h=>by cases h; exact .int _ _,fun _=>rfl⟩
theorem Plain.bool (b:Bool):Plain (.bool b):=⟨fun φ ι v h=>by cases h; exact .bool _,fun φ φ' ι v h=>by cases h; exact .bool _,fun _=>rfl⟩
theorem Plain.nils:Plain .nils:=⟨fun φ ι v h=>by cases h; exact .nils,fun φ φ' ι v h=>by cases h; exact .nils,fun _=>rfl⟩
theorem Plain.undef:Plain .undef:=⟨fun φ ι v h=>.undef v,fun φ φ' ι v h=>.undef v,fun _=>rfl⟩
theorem Plain.agg {cs:List PV} (h:∀ c∈cs,Plain c):Plain (.agg cs):=by
 refine ⟨fun φ ι v hr=>?_,fun φ φ' ι v hr=>?_,fun f=>?_⟩
 ·cases hr with
  | agg _ vs h1 h2 h3=>exact .agg cs vs h1 h2 fun i c v hc hv=>(h c (List.mem_of_getElem? hc)).up _ _ _ (h3 i c v hc hv)
 ·cases hr with
  | agg _ vs h1 h2 h3=>exact .agg cs vs h1 h2 fun i c v hc hv=>(h c (List.mem_of_getElem? hc)).fr _ _ _ _ (h3 i c v hc hv)
 ·simp only [PV.ren,renL_eq]
  congr 1
  conv=>rhs; rw [← List.map_id cs]
  exact List.map_congr_left fun c hc=>(h c hc).rn f
theorem Plain.tup {cs:List PV} (h:∀ c∈cs,Plain c):Plain (.tup cs):=by
 refine ⟨fun φ ι v hr=>?_,fun φ φ' ι v hr=>?_,fun f=>?_⟩
 ·cases hr with
  | tup _ vs h1 h3=>exact .tup cs vs h1 fun i c v hc hv=>(h c (List.mem_of_getElem? hc)).up _ _ _ (h3 i c v hc hv)
 ·cases hr with
  | tup _ vs h1 h3=>exact .tup cs vs h1 fun i c v hc hv=>(h c (List.mem_of_getElem? hc)).fr _ _ _ _ (h3 i c v hc hv)
 ·simp only [PV.ren,renL_eq]
  congr 1
  conv=>rhs; rw [← List.map_id cs]
  exact List.map_congr_left fun c hc=>(h c hc).rn f
theorem Plain.ints (l:List Int):∀ c∈ints l,Plain c:=fun c hc=>by
 simp only [Kv.ints,List.mem_map] at hc
 obtain ⟨x,_,rfl⟩:=hc
 exact .int _ _
theorem Plain.aggi (l:List Int):Plain (.agg (Kv.ints l)):=.agg (Plain.ints l)

theorem upto_list {xs:List PV} (n:Nat) (h:∀ x∈xs,∀ c∈x.cs,PV.upto n c):PV.upto n (.list xs):=fun φ ι v hr=>by
 cases hr with
 | list0 cap a=>exact .list0 _ _
 | listn=>exact .listn
 | list _ esz b o len cap C hl hc hb hsz g hg hh=>exact .list _ esz b o len cap C hl hc hb hsz g hg fun i x j c hx hc'=>h x (List.mem_of_getElem? hx) c (List.mem_of_getElem? hc') _ _ _ (hh i x j c hx hc')
theorem upto_mono {c:PV} (h:PV.upto 0 c) (n:Nat):PV.upto n c:=fun φ ι v hr=>(h φ ι v hr).mono (.refl _) (fun id l hl=>by simp at hl)
theorem upto_ints (n:Nat) (l:List Int):PV.upto n (.list (ints l)):=upto_mono (upto_list 0 fun x hx c hc=>by
 simp only [ints,List.mem_map] at hx
 obtain ⟨y,_,rfl⟩:=hx
 simp [PV.cs] at hc; subst hc
 exact (Plain.int _ _).up) n
theorem upto_rows (n:Nat) (l:List (List Int)):PV.upto n (.list (rows l)):=upto_mono (upto_list 0 fun x hx c hc=>by
 simp only [rows,List.mem_map] at hx
 obtain ⟨y,_,rfl⟩:=hx
 simp [PV.cs] at hc; subst hc
 exact upto_ints 0 _) n
theorem upto_aggs (n:Nat) (l:List (List Int)):PV.upto n (.list (aggs l)):=upto_mono (upto_list 0 fun x hx c hc=>by
 simp only [aggs,List.mem_map] at hx
 obtain ⟨y,_,rfl⟩:=hx
 exact (Plain.ints _ c hc).up) n
theorem upto_fptr (n:Nat) {cs:List PV} (o:Nat) (h:∀ c∈cs,Plain c):PV.upto n (.fptr cs o):=upto_mono (fun φ ι v hr=>by
 cases hr with
 | fptr _ _ b o' C hb hok g hg hh=>exact .fptr cs o b o' C hb hok g hg fun j c hc=>(h c (List.mem_of_getElem? hc)).up _ _ _ (hh j c hc)) n
theorem upto_fn (n:Nat) (f:Fn) {a b:List PV} (ha:∀ c∈a,PV.upto 0 c) (hb:∀ c∈b,PV.upto 0 c):PV.upto n (.fn f a b):=upto_mono (fun φ ι v hr=>by
 cases hr with
 | fn _ _ _ u v g1 g2 g3 g4=>exact .fn f a b u v g1 g2 (fun i c x hc hx=>ha c (List.mem_of_getElem? hc) _ _ _ (g3 i c x hc hx)) fun i c x hc hx=>hb c (List.mem_of_getElem? hc) _ _ _ (g4 i c x hc hx)) n
theorem free_ref (id ver off len:Nat):(PV.ref id ver off len).free:=fun φ φ' ι v h=>by
 cases h with
 | ref _ _ _ _ _ k e s u hh ho hk hv=>exact .ref id ver off len v k e s u hh ho hk hv
theorem free_tup {cs:List PV} (h:∀ c∈cs,c.free):(PV.tup cs).free:=fun φ φ' ι v hr=>by
 cases hr with
 | tup _ vs h1 h3=>exact .tup cs vs h1 fun i c v hc hv=>h c (List.mem_of_getElem? hc) _ _ _ _ (h3 i c v hc hv)
def Pure (P:Program) (f:FuncId) (args:List PV) (r:PV):Prop:=ACall P f args [] fun v s=>v=r∧s = []
theorem Pure.use {P:Program} {f:FuncId} {args args':List PV} {r:PV} {σ:Heap} {K:PV→Heap→Prop} (h:Pure P f args r) (hp:Plain r) (hi:ImmL σ args' args) (hk:K r σ):ACall P f args' σ K :=
 ACall.lend h hi fun v s ⟨hv,hs⟩=>by
  subst hv; subst hs
  exact ⟨⟨hp.fr,by simp⟩,by simpa [hp.rn] using hk⟩
theorem Pure.puse {P:Program} {f:FuncId} {args args':List PV} {r:PV} {σ:Heap} {K:PV→Prop} (h:Pure P f args r) (hp:Plain r) (hi:ImmL σ args' args) (hk:K r):PCall P f args' σ K :=
 .inl ⟨args,hi,h.mono fun v s ⟨hv,hs⟩=>by subst hv; exact ⟨⟨hp.fr,hs⟩,hk⟩⟩
theorem Imm.int (σ:Heap) (k:IntKind) (n:Int):Imm σ (.int k n) (.int k n):=.refl _ (Plain.int _ _).up
theorem Imm.bool (σ:Heap) (b:Bool):Imm σ (.bool b) (.bool b):=.refl _ (Plain.bool _).up
theorem Imm.listi (σ:Heap) (l:List Int):Imm σ (.list (ints l)) (.list (ints l)):=.refl _ (upto_ints 0 l)
theorem Imm.listr (σ:Heap) (l:List (List Int)):Imm σ (.list (rows l)) (.list (rows l)):=.refl _ (upto_rows 0 l)
theorem ints_get {l:List Int} {i:Nat} {c:PV} (h:(ints l)[i]? = some c):∃ x,l[i]? = some x∧c = .int .i64 x:=by
 simp only [ints,List.getElem?_map,Option.map_eq_some_iff] at h
 obtain ⟨x,h1,h2⟩:=h
 exact ⟨x,h1,h2.symm⟩
theorem aggs_get {l:List (List Int)} {i:Nat} {c:PV} (h:(aggs l)[i]? = some c):∃ x,l[i]? = some x∧c = .agg (ints x):=by
 simp only [aggs,List.getElem?_map,Option.map_eq_some_iff] at h
 obtain ⟨x,h1,h2⟩:=h
 exact ⟨x,h1,h2.symm⟩
theorem rows_get {l:List (List Int)} {i:Nat} {c:PV} (h:(rows l)[i]? = some c):∃ x,l[i]? = some x∧c = .list (ints x):=by
 simp only [rows,List.getElem?_map,Option.map_eq_some_iff] at h
 obtain ⟨x,h1,h2⟩:=h
 exact ⟨x,h1,h2.symm⟩
theorem Imm.refi {σ:Heap} {id ver:Nat} {e:TypeId} {l:List Int} (h:σ[id]? = some (.arr ver e 1 (ints l))):Imm σ (.ref id ver 0 l.length) (.list (ints l)) :=
 .ref id ver 0 l.length e 1 (ints l) (ints l) h (by simp [ints_length]) (ints_length l)
  (fun i x d hx hd=>by simp only [Nat.zero_add,hd,Option.some.injEq] at hx; subst hx; obtain ⟨y,_,rfl⟩:=ints_get hd; exact ⟨rfl,rfl⟩)
  (fun i x d j c c' hx hd hc hc'=>by
   simp only [Nat.zero_add,hd,Option.some.injEq] at hx; subst hx
   obtain ⟨y,_,rfl⟩:=ints_get hd
   rw [hc] at hc'; cases hc'
   simp only [PV.cs] at hc
   have:=List.mem_of_getElem? hc
   simp at this; subst this
   exact .int _ _ _)
theorem Imm.refn {σ:Heap} {id ver n:Nat} {e:TypeId} {l:List Int} (h:σ[id]? = some (.arr ver e 1 (ints l))) (hn:n=l.length):Imm σ (.ref id ver 0 n) (.list (ints l)):=hn ▸ .refi h
theorem Imm.refp {σ:Heap} {id ver n o:Nat} {e:TypeId} {pre l post:List Int} (h:σ[id]? = some (.arr ver e 1 (ints (pre ++ l ++ post)))) (hn:n=l.length) (hpo:o=pre.length):Imm σ (.ref id ver o n) (.list (ints l)):=by
 subst hn; subst hpo
 have hg:∀ (i:Nat) (x d:PV),(ints (pre ++ l ++ post))[pre.length+i]? = some x→(ints l)[i]? = some d→x=d:=fun i x d hx hd=>by
  have hlt:=(List.getElem?_eq_some_iff.1 hd).1
  rw [ints_length] at hlt
  rw [List.append_assoc,← ints_append,List.getElem?_append_right (by simp [ints]),ints_length,Nat.add_sub_cancel_left,← ints_append,List.getElem?_append_left (by rw [ints_length]; exact hlt),hd] at hx
  exact (Option.some.inj hx).symm
 refine .ref id ver pre.length l.length e 1 (ints (pre ++ l ++ post)) (ints l) h (by simp only [ints_length,List.length_append]; omega) (ints_length l) (fun i x d hx hd=>?_) (fun i x d j c c' hx hd hc hc'=>?_)
 ·obtain rfl:=hg i x d hx hd
  obtain ⟨y,_,rfl⟩:=ints_get hd
  exact ⟨rfl,rfl⟩
 ·obtain rfl:=hg i x d hx hd
  obtain ⟨y,_,rfl⟩:=ints_get hd
  rw [hc] at hc'; cases hc'
  have:=List.mem_of_getElem? hc
  simp [PV.cs] at this; subst this
  exact .int _ _ _
theorem Imm.refa {σ:Heap} {id ver:Nat} {e:TypeId} {n:Nat} {l:List (List Int)} (h:σ[id]? = some (.arr ver e n (aggs l))):Imm σ (.ref id ver 0 l.length) (.list (aggs l)) :=
 .ref id ver 0 l.length e n (aggs l) (aggs l) h (by simp [aggs_length]) (aggs_length l)
  (fun i x d hx hd=>by simp only [Nat.zero_add,hd,Option.some.injEq] at hx; subst hx; obtain ⟨y,_,rfl⟩:=aggs_get hd; exact ⟨rfl,ints_ok y⟩)
  (fun i x d j c c' hx hd hc hc'=>by
   simp only [Nat.zero_add,hd,Option.some.injEq] at hx; subst hx
   obtain ⟨y,_,rfl⟩:=aggs_get hd
   rw [hc] at hc'; cases hc'
   exact .refl _ ((Plain.ints y c (List.mem_of_getElem? hc)).up))

/-! ### Renumbering, reckoned out -/
section
variable (f:Nat→Nat)
@[go_sem] theorem sh_def (n i:Nat):sh n i=i+n:=Eq.trans rfl rfl
@[go_sem] theorem ren_int (k:IntKind) (n:Int):(PV.int k n).ren f = .int k n:=by simp [PV.ren]
@[go_sem] theorem ren_bool (b:Bool):(PV.bool b).ren f = .bool b:=by simp [PV.ren]
@[go_sem] theorem ren_nils:PV.nils.ren f = .nils:=by simp [PV.ren]
@[go_sem] theorem ren_ref (i v o n:Nat):(PV.ref i v o n).ren f = .ref (f i) v o n:=by simp [PV.ren]
@[go_sem] theorem ren_tup (l:List PV):(PV.tup l).ren f = .tup (l.map (PV.ren f)):=by simp [PV.ren]
@[go_sem] theorem ren_agg (l:List PV):(PV.agg l).ren f = .agg (l.map (PV.ren f)):=by simp [PV.ren]
@[go_sem] theorem ren_list (l:List PV):(PV.list l).ren f = .list (l.map (PV.ren f)):=by simp [PV.ren]
@[go_sem] theorem ren_ints (l:List Int):(ints l).map (PV.ren f)=ints l:=by simp [ints,PV.ren,Function.comp_def]
@[go_sem] theorem ren_aggs (l:List (List Int)):(aggs l).map (PV.ren f)=aggs l:=by
 simp only [aggs,List.map_map]
 exact List.map_congr_left fun m _=>by simp only [Function.comp_def,ren_agg,ren_ints]
@[go_sem] theorem ren_rows (l:List (List Int)):(rows l).map (PV.ren f)=rows l:=by
 simp only [rows,List.map_map]
 exact List.map_congr_left fun m _=>by simp only [Function.comp_def,ren_list,ren_ints]
@[go_sem] theorem ren_arr (v:Nat) (e:TypeId) (s:Nat) (l:List PV):(AObj.arr v e s l).ren f = .arr v e s (l.map (PV.ren f)):=Eq.trans rfl rfl
end

/-! ### Loops -/
theorem KL_ind {C:Cfg} {b:KC} {Q:Exit→Env→Heap→Prop} {env:Env} {σ:Heap} {α:Type} {b':KC} (hb:b=b') (E:α→Env) (H:α→Heap) (I:α→Prop) (m:α→Nat) (live:List Nat) (x0:α)
  (hE:keep live env=E x0) (hH:σ = H x0) (h0:I x0)
  (step:∀ x,I x→(∀ y,I y→m y<m x→∀ env' σ',keep live env'=E y→σ'=H y→KL C b Q env' σ')→vc C b' (LK C b Q) (E x) (H x)):KL C b Q env σ:=by
 subst hb
 have key:∀ (n:Nat) (x:α),m x<n→I x→KL C b Q (E x) (H x):=by
  intro n
  induction n with
  | zero=>intro x h; omega
  | succ n ih =>
   intro x h hi
   refine KL_round (step x hi fun y hy hm env' σ' he hs=>KL_keep live ?_)
   rw [he,hs]
   exact ih y (by omega) hy
 refine KL_keep live ?_
 rw [hE,hH]
 exact key (m x0+1) x0 (by omega) h0

/-! ### Results -/
theorem Ret.now {n0:Nat} (v:PV) (σ:Heap):Ret n0 v σ v σ:=fun φ ι w x _ ho hr=>⟨φ,ι,.refl _ _ _ _,ho,hr⟩
theorem Fin.now {n0:Nat} {K:PV→Heap→Prop} {v:PV} {σ:Heap} (h:K v σ):Fin n0 K v σ:=⟨v,σ,.now v σ,h⟩
theorem Fin.drop {n0:Nat} {K:PV→Heap→Prop} {v:PV} {σ:Heap} (n:Nat) (hn:n0≤n) (hv:PV.upto n v) (hb:heapUpto n σ) (h:K v (σ.take n)):Fin n0 K v σ :=
 ⟨v,σ.take n,fun φ ι w x _ ho hr=>⟨φ,ι.take n,Tr.trunc ho n hn,ho.trunc n hb,hv _ _ _ hr⟩,h⟩

noncomputable def ownFrz (φ:Frz) (ι:List KLoc) (w:World):Frz:=fun b=>match φ b with | some C=>some C | none=>(open Classical in if owned ι b then allFrz w b else none)
theorem Fin.freeze {K:PV→Heap→Prop} {v v':PV} {σ:Heap} (hi:Imm σ v v') (hk:K v' []):Fin 0 K v σ:=by
 refine ⟨v',[],fun φ ι w x _ ho hr=>?_,hk⟩
 have hle:FLe φ (ownFrz φ ι w):=fun b C h=>by simp [ownFrz,h]
 refine ⟨ownFrz φ ι w,[],⟨hle,fun id l h=>by simp at h,fun _ _ _=>rfl,Nat.le_refl _,fun b ⟨_,_,h,_⟩=>by simp at h,rfl,rfl,rfl,fun b C h=>?_⟩,⟨rfl,fun b C h=>?_,fun id l b h=>by simp at h,fun id id' l l' b h=>by simp at h,fun id l b h=>by simp at h,fun id o l h=>by simp at h⟩,?_⟩
 ·unfold ownFrz at h
  split at h
  ·rename_i D hD; simp only [Option.some.injEq] at h; subst h; exact .inl hD
  ·split at h
   ·rename_i ho'; exact .inr (.inl ho')
   ·cases h
 ·unfold ownFrz at h
  split at h
  ·rename_i D hD; simp only [Option.some.injEq] at h; subst h; exact ho.fz b D hD
  ·split at h
   ·exact (allFrz_hok w).fz b C h
   ·cases h
 ·refine hi.rel ho hle (fun id _ l b C e f _ _ h1 h2 h3=>?_) hr
  have hn:=ho.nf id l b h1 h2
  have hw:owned ι b:=⟨id,l,h1,h2⟩
  simp [ownFrz,hn,hw,allFrz_own h3]
theorem ownFrz_tr {φ:Frz} {ι:List KLoc} {σ:Heap} {w:World} (ho:HOK φ ι σ w):FLe φ (ownFrz φ ι w)∧Tr 0 φ ι w (ownFrz φ ι w) [] w∧HOK (ownFrz φ ι w) [] [] w∧∀ (id:Nat) (l:KLoc) (b:Nat) (C:Array Value) (e:TypeId) (f:Nat × Nat),ι[id]? = some l→l.block=some b→w.heap[b]? = some (.cells C e f)→ownFrz φ ι w b=some C:=by
 have hle:FLe φ (ownFrz φ ι w):=fun b C h=>by simp [ownFrz,h]
 refine ⟨hle,⟨hle,fun id l h=>by simp at h,fun _ _ _=>rfl,Nat.le_refl _,fun b ⟨_,_,h,_⟩=>by simp at h,rfl,rfl,rfl,fun b C h=>?_⟩,⟨rfl,fun b C h=>?_,fun id l b h=>by simp at h,fun id id' l l' b h=>by simp at h,fun id l b h=>by simp at h,fun id o l h=>by simp at h⟩,fun id l b C e f h1 h2 h3=>?_⟩
 ·unfold ownFrz at h
  split at h
  ·rename_i D hD; simp only [Option.some.injEq] at h; subst h; exact .inl hD
  ·split at h
   ·rename_i ho'; exact .inr (.inl ho')
   ·cases h
 ·unfold ownFrz at h
  split at h
  ·rename_i D hD; simp only [Option.some.injEq] at h; subst h; exact ho.fz b D hD
  ·split at h
   ·exact (allFrz_hok w).fz b C h
   ·cases h
 ·have hn:=ho.nf id l b h1 h2
  have hw:owned ι b:=⟨id,l,h1,h2⟩
  simp [ownFrz,hn,hw,allFrz_own h3]
inductive EnvImm (σ:Heap):Env→Env→Prop
 | nil:EnvImm σ [] []
 | cons {k:Nat} {v v':PV} {env env':Env} (h:Imm σ v v') (h':EnvImm σ env env'):EnvImm σ ((k,v) :: env) ((k,v') :: env')
theorem EnvImm.look {σ:Heap} {env env':Env} (h:EnvImm σ env env') (t:Nat):Imm σ (look env t) (look env' t):=by
 induction h with
 | nil=>exact .refl _ Plain.undef.up
 | @cons k v v' env env' h _ ih =>
  by_cases e:k=t
  ·subst e; simpa [Kv.look] using h
  ·simpa [Kv.look,e] using ih
theorem KL_freeze {C:Cfg} {b:KC} {Q:Exit→Env→Heap→Prop} {env env0 env':Env} {σ:Heap} (live:List Nat) (hn:C.n0=0) (hE:keep live env=env0) (he:EnvImm σ env0 env') (h:KL C b Q env' []):KL C b Q env σ:=by
 refine KL_keep live ?_
 rw [hE]
 intro c hc φ ι a w h1 h2
 obtain ⟨hle,htr,hok,hwn⟩:=ownFrz_tr h1
 have:=h c hc (ownFrz φ ι w) [] a w hok ⟨⟨h2.1.sz,h2.1.df,fun t=>(he.look t).rel h1 hle (fun id _ l b C e f _ _ q1 q2 q3=>hwn id l b C e f q1 q2 q3) (h2.1.rel t)⟩,by simp [hn]⟩
 refine this.mono fun e a' w' ⟨φ',ι',env',σ',g1,g2,g3,g4⟩=>⟨φ',ι',env',σ',?_,g2,g3,g4⟩
 rw [hn] at g1 ⊢
 exact htr.trans g1
theorem Fin.clean {K:PV→Heap→Prop} {v:PV} {σ:Heap} (hv:PV.upto 0 v) (h:K v []):Fin 0 K v σ:=Fin.drop 0 (Nat.le_refl _) hv (fun o ho=>by simp at ho) h
theorem one_ret {φ:Frz} {ι:List KLoc} {σ:Heap} {w:World} (ho:HOK φ ι σ w) {i:Nat} {ver esz:Nat} {e:TypeId} {xs:List PV} (hi:σ[i]? = some (.arr ver e esz xs)) (hp:∀ c∈flat xs,Plain c) :
  ∃ l,ι[i]? = some l∧Tr 0 φ ι w φ [l] w∧HOK φ [l] [.arr ver e esz xs] w:=by
 have hlt:i < ι.length:=by rw [ho.len]; exact (List.getElem?_eq_some_iff.1 hi).1
 have hl:=List.getElem?_eq_getElem hlt
 have ow:∀ b,owned [ι[i]] b→owned ι b∨w.heap.size≤b:=fun b ⟨id,l,h1,h2⟩=>by
  have:=List.mem_of_getElem? h1
  simp at this; subst this
  exact .inl ⟨i,_,hl,h2⟩
 refine ⟨ι[i],hl,⟨.refl _,fun id l h=>by simp at h,fun _ _ _=>rfl,Nat.le_refl _,ow,rfl,rfl,rfl,fun _ _ h=>.inl h⟩,⟨rfl,ho.fz,fun id l b h1 h2=>?_,fun id id' l l' b h1 h2 _ _=>?_,fun id l b h1 h2=>?_,fun id o l h1 h2=>?_⟩⟩
 ·have:=List.mem_of_getElem? h1
  simp at this; subst this
  exact ho.nf i _ b hl h2
 ·have h3:=(List.getElem?_eq_some_iff.1 h1).1
  have h4:=(List.getElem?_eq_some_iff.1 h2).1
  simp at h3 h4; omega
 ·have:=List.mem_of_getElem? h1
  simp at this; subst this
  exact ho.lt i _ b hl h2
 ·have e1:=List.mem_of_getElem? h1
  have e2:=List.mem_of_getElem? h2
  simp at e1 e2; subst e1; subst e2
  have:=ho.obj i _ _ hi hl
  cases hk:ι[i] with
  | dead=>rw [hk] at this; simp [ObjOK] at this
  | box b=>rw [hk] at this; simp [ObjOK] at this
  | arr v' e' s' u =>
   rw [hk] at this
   simp only [ObjOK] at this ⊢
   obtain ⟨g1,g2,g3,g4,ys,g5,g6,g7⟩:=this
   refine ⟨g1,g2,g3,g4,ys,g5,?_,g7⟩
   have h5:RelL φ [] (flat xs) ys:=by simpa using g6.upto (n:=0) fun c hc=>(hp c hc).up
   exact h5.mono (.refl _) (fun id l h=>by simp at h)
theorem Fin.one {K:PV→Heap→Prop} {σ:Heap} {i ver esz len:Nat} {e:TypeId} {xs:List PV} (hi:σ[i]? = some (.arr ver e esz xs)) (hp:∀ c∈flat xs,Plain c) (off:Nat) (h:K (.ref 0 ver off len) [.arr ver e esz xs]):Fin 0 K (.ref i ver off len) σ :=
 ⟨_,_,fun φ ι w x _ ho hr=>by
  obtain ⟨l,hl,htr,hok⟩:=one_ret ho hi hp
  refine ⟨φ,[l],htr,hok,?_⟩
  cases hr with
  | ref _ _ _ _ _ k e s u hh ho' hk hv=>exact .ref 0 ver off len x k e s u (by rw [hl] at hh; simpa using hh) ho' hk hv,h⟩
def NewI (P:Program) (f:FuncId) (args:List PV) (e:TypeId) (l:List Int) (r:Int):Prop :=
 ACall P f args [] fun v s=>∃ ver,∃ pre post:List Int,v = .tup [.ref 0 ver pre.length l.length,.int .i64 r]∧s = [.arr ver e 1 (ints (pre ++ l ++ post))]
theorem NewI.mk {P:Program} {f:FuncId} {args:List PV} {e:TypeId} {l:List Int} {r:Int} (ver:Nat) (pre post:List Int) (h:ACall P f args [] fun v s=>v = .tup [.ref 0 ver pre.length l.length,.int .i64 r]∧s = [.arr ver e 1 (ints (pre ++ l ++ post))]):NewI P f args e l r :=
 ACall.mono h fun v s hs=>⟨ver,pre,post,hs⟩
theorem NewI.call {P:Program} {f:FuncId} {args:List PV} {e:TypeId} {l:List Int} {r:Int} (h:NewI P f args e l r) {σ:Heap} {K:PV→Heap→Prop} (ha:∀ a∈args,PV.upto 0 a)
  (hk:∀ (ver:Nat) (pre post:List Int),K (.tup [.ref σ.length ver pre.length l.length,.int .i64 r]) (σ ++ [.arr ver e 1 (ints (pre ++ l ++ post))])):ACall P f args σ K:=by
 refine ACall.frame h ha fun v s ⟨ver,pre,post,hv,hs⟩=>?_
 subst hv; subst hs
 simpa only [ren_tup,ren_ref,ren_int,ren_arr,ren_ints,List.map_cons,List.map_nil,sh_def,Nat.zero_add] using hk ver pre post
theorem NewI.lend {P:Program} {f:FuncId} {args args':List PV} {e:TypeId} {l:List Int} {r:Int} (h:NewI P f args' e l r) {σ:Heap} {K:PV→Heap→Prop} (ha:ImmL σ args args')
  (hk:∀ (ver:Nat) (pre post:List Int),K (.tup [.ref σ.length ver pre.length l.length,.int .i64 r]) (σ ++ [.arr ver e 1 (ints (pre ++ l ++ post))])):ACall P f args σ K:=by
 refine ACall.lend h ha fun v s ⟨ver,pre,post,hv,hs⟩=>?_
 subst hv; subst hs
 refine ⟨⟨free_tup fun c hc=>?_,fun o ho=>?_⟩,by simpa only [ren_tup,ren_ref,ren_int,ren_arr,ren_ints,List.map_cons,List.map_nil,sh_def,Nat.zero_add] using hk ver pre post⟩
 ·simp only [List.mem_cons,List.not_mem_nil,or_false] at hc
  rcases hc with rfl | rfl
  ·exact free_ref _ _ _ _
  ·exact (Plain.int _ _).fr
 ·simp only [List.mem_cons,List.not_mem_nil,or_false] at ho
  subst ho
  intro c hc
  rw [flat_ints] at hc
  exact (Plain.ints _ c hc).fr
theorem up1 {a:PV} (h:PV.upto 0 a):∀ x∈[a],PV.upto 0 x:=fun x hx=>by simp at hx; subst hx; exact h
end Go.Kv
end

/- From a call under the abstract condition to what a law's row asks of the world. -/
section
namespace Go.Kv
theorem Pure.walk_true {P:Program} {f:FuncId} {args:List PV} (h:Pure P f args (.bool true)) {W:World} {vs:List Value} (hr:RelL (allFrz W) [] args vs) :
  Calls P f vs.toArray W fun e W'=>e = .returned (.bool true)∧Go.RowKit.Below W.heap.size W W' :=
 (h.2 (allFrz W) [] W vs hr (allFrz_hok W)).mono fun e W' ⟨v,v',φ',ι',σ',h1,h2,h3,_,h5⟩=>by
  obtain ⟨rfl,_⟩:=h5
  rw [h2.bool_inv] at h1
  exact ⟨h1,⟨h3.os,h3.tp,h3.out,h3.sz,fun k hk=>h3.fr k hk (fun ⟨_,_,h,_⟩=>by simp at h)⟩⟩
end Go.Kv
end

/- The arguments of a law, as abstract values: slices of numbers, of slices, read off what the row says of them. -/
section
namespace Go.Kv
open Go.ChangeShapes
set_option linter.unusedVariables false
set_option linter.unusedSimpArgs false
variable {H:Type} {enc:TypeId × Value→H} {P:Program} {W:World} {sp:Nat→Bool} {held:Bool}

theorem cell_spot {a:Addr} {v:Value} (h:W.cell? a=some v):∃ C e f,W.heap[a.block]? = some (.cells C e f)∧a.spot=none∧C[a.off]? = some v:=by
 unfold World.cell? at h
 split at h
 ·rename_i C e f hb
  split at h
  ·cases h
  ·rename_i hs
   exact ⟨C,e,f,hb,by simpa using hs,h⟩
 ·cases h
theorem add_zero' (a:Addr):a.add 0=a:=by simp [Addr.add]
theorem list_rel {a:Addr} {cap esz:Nat} {xs:List PV} (hcap:xs.length≤cap) (hpos:0<esz) (hsz:∀ x∈xs,x.cs.length=esz∧x.cs.all PV.ok=true)
  (h:∀ (i:Nat) (x:PV) (j:Nat) (c:PV),xs[i]? = some x→x.cs[j]? = some c→∃ v,W.cell? (a.add (i * esz+j))=some v∧Rel (allFrz W) [] c v):Rel (allFrz W) [] (.list xs) (.slice (some a) xs.length cap):=by
 cases xs with
 | nil=>exact .list0 _ _
 | cons x0 xs =>
  have hx0:=hsz x0 (by simp)
  obtain ⟨c0,hc0⟩:∃ c,x0.cs[0]? = some c:=⟨x0.cs[0]'(by omega),List.getElem?_eq_getElem (by omega)⟩
  obtain ⟨v0,hv0,_⟩:=h 0 x0 0 c0 rfl hc0
  rw [show 0 * esz+0=0 by omega,add_zero'] at hv0
  obtain ⟨C,e,f,hb,hs,_⟩:=cell_spot hv0
  obtain ⟨b,o,s⟩:=a
  simp only at hs hb; subst hs
  have key:∀ (i:Nat) (x:PV) (j:Nat) (c:PV),(x0 :: xs)[i]? = some x→x.cs[j]? = some c→∃ v,C[o+i * esz+j]? = some v∧Rel (allFrz W) [] c v:=fun i x j c hx hc=>by
   obtain ⟨v,hv,hr⟩:=h i x j c hx hc
   refine ⟨v,?_,hr⟩
   unfold World.cell? at hv
   by_cases hz:i * esz+j=0
   ·have h1:i * esz=0:=by omega
    have h2:j=0:=by omega
    rw [hz,add_zero'] at hv
    rw [h1,h2]
    simpa [hb] using hv
   ·have:(⟨b,o,none⟩:Addr).add (i * esz+j)=⟨b,o+(i * esz+j),none⟩:=by simp [Addr.add,hz]
    rw [this] at hv
    simp only [hb] at hv
    rw [Nat.add_assoc]
    simpa using hv
  refine .list (x0 :: xs) esz b o _ cap C rfl hcap (allFrz_own hb) (fun i x hx=>hsz x (List.mem_of_getElem? hx)) (fun i j=>(C[o+i * esz+j]?).getD Go.undef) (fun i x j c hx hc=>?_) (fun i x j c hx hc=>?_)
  ·obtain ⟨v,hv,_⟩:=key i x j c hx hc
   rw [hv]; rfl
  ·obtain ⟨v,hv,hr⟩:=key i x j c hx hc
   rw [hv]; exact hr
theorem choose_list {α:Type} (d:α) (Q:Nat→α→Prop):∀ n:Nat,(∀ i,i<n→∃ x,Q i x)→∃ l:List α,l.length=n∧∀ i,i<n→Q i (l.getD i d)
 | 0,_=>⟨[],rfl,fun i h=>by omega⟩
 | n+1,h=>by
  obtain ⟨l,hl,hq⟩:=choose_list d Q n fun i hi=>h i (by omega)
  obtain ⟨x,hx⟩:=h n (by omega)
  refine ⟨l ++ [x],by simp [hl],fun i hi=>?_⟩
  by_cases e:i<n
  ·have:=hq i e
   rw [List.getD_eq_getElem?_getD,List.getElem?_append_left (by omega),← List.getD_eq_getElem?_getD]; exact this
  ·obtain rfl:i=n:=by omega
   rw [List.getD_eq_getElem?_getD,List.getElem?_append_right (by omega),hl,Nat.sub_self]
   exact hx
theorem arg_slice {r:Reach} {b:Nat} {t e:TypeId} {v:Value} (ht:P.underlying t=some (.slice e)) (hv:Value.okWide P W r b t v):v.cells.toList = [v]:=by
 unfold Value.okWide at hv
 rw [ht] at hv
 simp only [Cell.okWide,ht,Cell.ok] at hv
 cases v <;> first | rfl | (exact hv.elim) | (simp at hv)
end Go.Kv
end

/- Values that speak of nothing in the heap; calls whose arguments are such. -/
section
namespace Go.Kv
set_option linter.unusedVariables false
set_option linter.unusedSimpArgs false
class Still (c:PV):Prop where
 up:PV.upto 0 c
 rn:∀ f:Nat→Nat,c.ren f=c
class StillL (cs:List PV):Prop where
 all:∀ c∈cs,Still c
class PlainC (c:PV):Prop where
 p:Plain c
class PlainL (cs:List PV):Prop where
 all:∀ c∈cs,Plain c
instance {k:IntKind} {n:Int}:PlainC (.int k n):=⟨.int _ _⟩
instance {b:Bool}:PlainC (.bool b):=⟨.bool _⟩
instance:PlainC .nils:=⟨.nils⟩
instance:PlainC .undef:=⟨.undef⟩
instance:PlainL []:=⟨fun c h=>by simp at h⟩
instance {c:PV} {cs:List PV} [h:PlainC c] [h':PlainL cs]:PlainL (c :: cs):=⟨fun x hx=>by
 rcases List.mem_cons.1 hx with rfl | hx
 ·exact h.p
 ·exact h'.all x hx⟩
instance {l:List Int}:PlainL (ints l):=⟨Plain.ints l⟩
instance {cs:List PV} [h:PlainL cs]:PlainC (.agg cs):=⟨.agg h.all⟩
instance {cs:List PV} [h:PlainL cs]:PlainC (.tup cs):=⟨.tup h.all⟩

theorem ren_map {cs:List PV} (h:∀ c∈cs,Still c) (f:Nat→Nat):cs.map (PV.ren f)=cs:=by
 conv=>rhs; rw [← List.map_id cs]
 exact List.map_congr_left fun c hc=>(h c hc).rn f
instance {k:IntKind} {n:Int}:Still (.int k n):=⟨(Plain.int _ _).up,(Plain.int _ _).rn⟩
instance {b:Bool}:Still (.bool b):=⟨(Plain.bool _).up,(Plain.bool _).rn⟩
instance {s:List UInt8}:Still (.str s):=⟨fun φ ι v h=>by cases h; exact .str _,fun _=>by simp [PV.ren]⟩
instance:Still .nils:=⟨Plain.nils.up,Plain.nils.rn⟩
instance:Still .undef:=⟨Plain.undef.up,Plain.undef.rn⟩
instance:Still .nilptr:=⟨fun φ ι v h=>by cases h; exact .nilptr,fun _=>by simp [PV.ren]⟩
instance:Still .nilf:=⟨fun φ ι v h=>by cases h; exact .nilf,fun _=>by simp [PV.ren]⟩
instance:StillL []:=⟨fun c h=>by simp at h⟩
instance {c:PV} {cs:List PV} [h:Still c] [h':StillL cs]:StillL (c :: cs):=⟨fun x hx=>by
 rcases List.mem_cons.1 hx with rfl | hx
 ·exact h
 ·exact h'.all x hx⟩
instance {l:List Int}:StillL (ints l):=⟨fun c hc=>⟨(Plain.ints l c hc).up,(Plain.ints l c hc).rn⟩⟩
instance {cs:List PV} [h:StillL cs]:Still (.agg cs):=⟨fun φ ι v hr=>by
  cases hr with
  | agg _ vs h1 h2 h3=>exact .agg cs vs h1 h2 fun i c v hc hv=>(h.all c (List.mem_of_getElem? hc)).up _ _ _ (h3 i c v hc hv),
 fun f=>by simp only [PV.ren,renL_eq]; rw [ren_map h.all]⟩
instance {cs:List PV} [h:StillL cs]:Still (.tup cs):=⟨fun φ ι v hr=>by
  cases hr with
  | tup _ vs h1 h3=>exact .tup cs vs h1 fun i c v hc hv=>(h.all c (List.mem_of_getElem? hc)).up _ _ _ (h3 i c v hc hv),
 fun f=>by simp only [PV.ren,renL_eq]; rw [ren_map h.all]⟩
instance {cs:List PV} {o:Nat} [h:StillL cs]:Still (.fptr cs o):=⟨fun φ ι v hr=>by
  cases hr with
  | fptr _ _ b o' C hb hok g hg hh=>exact .fptr cs o b o' C hb hok g hg fun j c hc=>(h.all c (List.mem_of_getElem? hc)).up _ _ _ (hh j c hc),
 fun f=>by simp only [PV.ren,renL_eq]; rw [ren_map h.all]⟩
instance {f:Fn} {a b:List PV} [h:StillL a] [h':StillL b]:Still (.fn f a b):=⟨upto_fn 0 f (fun c hc=>(h.all c hc).up) (fun c hc=>(h'.all c hc).up),
 fun g=>by simp only [PV.ren,renL_eq]; rw [ren_map h.all,ren_map h'.all]⟩
theorem Still.list {xs:List PV} (h:∀ x∈xs,Still x∧∀ c∈x.cs,PV.upto 0 c):Still (.list xs):=⟨upto_list 0 fun x hx=>(h x hx).2,fun f=>by simp only [PV.ren,renL_eq]; rw [ren_map fun x hx=>(h x hx).1]⟩
instance {l:List Int}:Still (.list (ints l)):=⟨upto_ints 0 l,fun f=>by simp only [PV.ren,renL_eq,ren_ints]⟩
instance {l:List (List Int)}:Still (.list (rows l)):=⟨upto_rows 0 l,fun f=>by simp only [PV.ren,renL_eq,ren_rows]⟩
instance {l:List (List Int)}:Still (.list (aggs l)):=⟨upto_aggs 0 l,fun f=>by simp only [PV.ren,renL_eq,ren_aggs]⟩
instance:Still (.list []):=⟨upto_list 0 (by simp),fun f=>by simp [PV.ren]⟩
theorem Imm.fnc {σ:Heap} (f:Fn) {b b':List PV} (h:ImmL σ b b'):Imm σ (.fn f [] b) (.fn f [] b'):=.fn f [] b [] b' rfl h.1 (by simp) h.2
theorem up_self {σ:Heap} {cs:List PV} (h:∀ c∈cs,PV.upto 0 c):ImmL σ cs cs:=⟨rfl,fun i c d h1 h2=>by rw [h1] at h2; cases h2; exact .refl _ (h _ (List.mem_of_getElem? h1))⟩
theorem Imm.still {σ:Heap} {c:PV} [h:Still c]:Imm σ c c:=.refl _ h.up
theorem StillL.up {cs:List PV} (h:StillL cs):∀ c∈cs,PV.upto 0 c:=fun c hc=>(h.all c hc).up
theorem ImmL.still {σ:Heap} {cs:List PV} (h:StillL cs):ImmL σ cs cs:=⟨rfl,fun i c d hc hd=>by rw [hc] at hd; cases hd; exact .refl _ (h.all c (List.mem_of_getElem? hc)).up⟩
theorem Pure.go {P:Program} {f:FuncId} {args:List PV} {r:PV} {σ:Heap} {K:PV→Heap→Prop} (h:Pure P f args r) [ha:StillL args] [hr:Still r] (hk:K r σ):ACall P f args σ K :=
 ACall.frame h ha.up fun v s ⟨hv,hs⟩=>by
  subst hv; subst hs
  rw [hr.rn]; simpa using hk
theorem Pure.pgo {P:Program} {f:FuncId} {args:List PV} {r:PV} {σ:Heap} {K:PV→Prop} (h:Pure P f args r) [ha:StillL args] [hr:PlainC r] (hk:K r):PCall P f args σ K :=
 h.puse hr.p (.still ha) hk
theorem Pure.lend {P:Program} {f:FuncId} {args args':List PV} {r:PV} {σ:Heap} {K:PV→Heap→Prop} (h:Pure P f args r) (hi:ImmL σ args' args) [hr:PlainC r] (hk:K r σ):ACall P f args' σ K:=h.use hr.p hi hk
theorem ACall.go {P:Program} {f:FuncId} {args:List PV} {σ:Heap} {K K':PV→Heap→Prop} (h:ACall P f args [] K') [ha:StillL args] (hk:∀ v s,K' v s→K (v.ren (sh σ.length)) (σ ++ s.map (AObj.ren (sh σ.length)))):ACall P f args σ K:=ACall.frame h ha.up hk
theorem put6 {cs vs:List PV} (h:vs.length=6) (h':cs.length=6):putC cs 0 vs=vs:=by
 unfold putC
 split
 ·simp at h
 ·simp [h,h']
theorem sub6 {cs:List PV} (h:cs.length=6):subC cs 0 6=cs:=by simp [subC,h]
theorem take6 {α:Type} {l:List α} (h:l.length=6):l.take 6=l:=by rw [← h,List.take_length]
attribute [go_sem high] put6 sub6 /-! ### Giving away: an object that is frozen as a call is made -/
def solo (σ:Heap) (id:Nat):Heap:=(σ.map fun _=>AObj.dead).set id (σ.getD id .dead)
theorem solo_get {σ:Heap} {id:Nat} {o:AObj} (h:σ[id]? = some o):(solo σ id)[id]? = some o:=by
 have hlt:=(List.getElem?_eq_some_iff.1 h).1
 unfold solo
 rw [List.getElem?_set_self (by simpa using hlt),List.getD_eq_getElem?_getD,h]; rfl
theorem solo_ne {σ:Heap} {id j:Nat} {o:AObj} (hj:id≠j) (h:(solo σ id)[j]? = some o):o = .dead:=by
 unfold solo at h
 rw [List.getElem?_set_ne hj,List.getElem?_map,Option.map_eq_some_iff] at h
 obtain ⟨_,_,rfl⟩:=h
 rfl
theorem HOK.solo {φ:Frz} {ι:List KLoc} {σ:Heap} {w:World} (h:HOK φ ι σ w) (id:Nat):HOK φ ι (Kv.solo σ id) w :=
 ⟨by simp [Kv.solo,h.len],h.fz,h.nf,h.dis,h.lt,fun j o l ho hl=>by
  by_cases e:id=j
  ·subst e
   have hlt:=(List.getElem?_eq_some_iff.1 hl).1
   rw [h.len] at hlt
   have h2:=solo_get (List.getElem?_eq_getElem hlt)
   rw [h2] at ho; cases ho
   exact h.obj _ _ l (List.getElem?_eq_getElem hlt) hl
  ·rw [solo_ne e ho]; trivial⟩
theorem ACall.giveAt {P:Program} {f:FuncId} {args args':List PV} {σ:Heap} {K:PV→Heap→Prop} {id ver esz:Nat} {e:TypeId} {xs:List PV} (hid:σ[id]? = some (.arr ver e esz xs)) (h:ACall P f args' (σ.set id .dead) K) (hlen:args.length=args'.length)
  (ha:∀ (i:Nat) (c d:PV),args[i]? = some c→args'[i]? = some d→Imm (solo σ id) c d∨(c=d∧PV.upto id c)):ACall P f args σ K:=by
 refine ⟨h.1,fun φ ι w vs hr ho=>?_⟩
 have hlt:=(List.getElem?_eq_some_iff.1 hid).1
 have hltι:id < ι.length:=by rw [ho.len]; exact hlt
 have hl:ι[id]? = some ι[id]:=List.getElem?_eq_getElem hltι
 have hobj:=ho.obj id _ _ hid hl
 obtain ⟨k,e',s,u,hu⟩:∃ k e' s u,ι[id]=KLoc.arr k e' s u:=by
  cases hx:ι[id] with
  | dead=>rw [hx] at hobj; exact hobj.elim
  | box b=>rw [hx] at hobj; exact hobj.elim
  | arr k e' s u=>exact ⟨k,e',s,u,rfl⟩
 rw [hu] at hl
 obtain ⟨ho1,hLe⟩:=ho.upd (w':=w) (l':=.arr (k+1) e' s (.slice none 0 0)) (o:=.dead) hl (by simp [KLoc.le]) (Nat.le_refl _) (fun _ _ _=>rfl) (fun b hb=>by simp [KLoc.block,Value.ownBlock] at hb) (fun b hb=>by simp [KLoc.block,Value.ownBlock] at hb) trivial
 let φ1:Frz:=fun b=>if u.ownBlock=some b then allFrz w b else φ b
 have hle:FLe φ φ1:=fun b C hb=>by
  show (if u.ownBlock=some b then allFrz w b else φ b)=some C
  split
  ·rename_i hb2
   have:=ho.nf id _ b hl hb2
   rw [this] at hb; cases hb
  ·exact hb
 have hin:∀ (j:Nat) (x:KLoc) (b:Nat),(ι.set id (.arr (k+1) e' s (.slice none 0 0)))[j]? = some x→x.block=some b→id≠j∧ι[j]? = some x:=fun j x b hx hb=>by
  by_cases ej:id=j
  ·subst ej; rw [List.getElem?_set_self hltι] at hx; cases hx
   simp [KLoc.block,Value.ownBlock] at hb
  ·rw [List.getElem?_set_ne ej] at hx; exact ⟨ej,hx⟩
 have ho2:HOK φ1 (ι.set id (.arr (k+1) e' s (.slice none 0 0))) (σ.set id .dead) w:=by
  refine ⟨ho1.len,fun b C hb=>?_,fun j x b hx hb=>?_,ho1.dis,ho1.lt,fun j o x h1 h2=>(ho1.obj j o x h1 h2).keep hle (.refl _) (fun _ _=>rfl)⟩
  ·replace hb:(if u.ownBlock=some b then allFrz w b else φ b)=some C:=hb
   split at hb
   ·exact (allFrz_hok w).fz b C hb
   ·exact ho.fz b C hb
  ·obtain ⟨hj,hx'⟩:=hin j x b hx hb
   show (if u.ownBlock=some b then allFrz w b else φ b)=none
   rw [if_neg fun hb2:u.ownBlock=some b=>hj (ho.dis id j _ x b hl hx' hb2 hb)]
   exact ho.nf j x b hx' hb
 have htake:(ι.set id (KLoc.arr (k+1) e' s (.slice none 0 0))).take id = ι.take id:=List.take_set_of_le (Nat.le_refl _)
 have hr2:RelL φ1 (ι.set id (.arr (k+1) e' s (.slice none 0 0))) args' vs:=⟨by rw [← hlen]; exact hr.1,fun i d v hd hv=>by
  obtain ⟨c,hc⟩:=other hlen hd
  rcases ha i c d hc hd with hi | ⟨rfl,hu'⟩
  ·have:=hi.rel (ho.solo id) hle (fun j o l' b C e f h1 h2 h3 h4 h5=>?_) (hr.2 i c v hc hv)
   ·exact this.mono (.refl _) (by simpa using LLe.append [] (ι.set id (KLoc.arr (k+1) e' s (.slice none 0 0))))
   ·by_cases ej:id=j
    ·subst ej; rw [hl] at h3; cases h3
     show (if u.ownBlock=some b then allFrz w b else φ b)=some C
     rw [if_pos (show u.ownBlock=some b from h4)]; exact allFrz_own h5
    ·exact absurd (solo_ne ej h1) h2
  ·have h1:=hu' _ _ _ (hr.2 i c v hc hv)
   rw [← htake] at h1
   have h2:=LLe.append ((ι.set id (KLoc.arr (k+1) e' s (.slice none 0 0))).take id) ((ι.set id (KLoc.arr (k+1) e' s (.slice none 0 0))).drop id)
   rw [List.take_append_drop] at h2
   exact h1.mono hle h2⟩
 have ht0:Tr σ.length φ ι w φ1 (ι.set id (.arr (k+1) e' s (.slice none 0 0))) w:=⟨hle,hLe.of_take _,fun _ _ _=>rfl,Nat.le_refl _,fun b ⟨j,x,hx,hb⟩=>.inl ⟨j,x,(hin j x b hx hb).2,hb⟩,rfl,rfl,rfl,fun b C hb=>by
  replace hb:(if u.ownBlock=some b then allFrz w b else φ b)=some C:=hb
  split at hb
  ·rename_i hb2; exact .inr (.inl ⟨id,_,hl,hb2⟩)
  ·exact .inl hb⟩
 refine (h.2 φ1 _ w vs hr2 ho2).mono fun e w' ⟨v,v',φ',ι',s',h1,h2,h3,h4,h5⟩=>?_
 rw [List.length_set] at h3
 exact ⟨v,v',φ',ι',s',h1,h2,ht0.trans h3,h4,h5⟩
theorem ACall.give {P:Program} {f:FuncId} {args args':List PV} {σ:Heap} {K K':PV→Heap→Prop} {id ver esz:Nat} {e:TypeId} {xs:List PV} (hid:σ[id]? = some (.arr ver e esz xs)) (h:ACall P f args' [] K') (ha:ImmL (solo σ id) args args')
  (hk:∀ v s,K' v s→K (v.ren (sh σ.length)) (σ.set id .dead ++ s.map (AObj.ren (sh σ.length)))):ACall P f args σ K:=by
 refine ⟨h.1,fun φ ι w vs hr ho=>?_⟩
 have hlt:=(List.getElem?_eq_some_iff.1 hid).1
 have hltι:id < ι.length:=by rw [ho.len]; exact hlt
 have hl:ι[id]? = some ι[id]:=List.getElem?_eq_getElem hltι
 have hobj:=ho.obj id _ _ hid hl
 obtain ⟨k,e',s,u,hu⟩:∃ k e' s u,ι[id]=KLoc.arr k e' s u:=by
  cases hx:ι[id] with
  | dead=>rw [hx] at hobj; exact hobj.elim
  | box b=>rw [hx] at hobj; exact hobj.elim
  | arr k e' s u=>exact ⟨k,e',s,u,rfl⟩
 rw [hu] at hl
 obtain ⟨ho1,hLe⟩:=ho.upd (w':=w) (l':=.arr (k+1) e' s (.slice none 0 0)) (o:=.dead) hl (by simp [KLoc.le]) (Nat.le_refl _) (fun _ _ _=>rfl) (fun b hb=>by simp [KLoc.block,Value.ownBlock] at hb) (fun b hb=>by simp [KLoc.block,Value.ownBlock] at hb) trivial
 let φ1:Frz:=fun b=>if u.ownBlock=some b then allFrz w b else φ b
 have hle:FLe φ φ1:=fun b C hb=>by
  show (if u.ownBlock=some b then allFrz w b else φ b)=some C
  split
  ·rename_i hb2
   have:=ho.nf id _ b hl hb2
   rw [this] at hb; cases hb
  ·exact hb
 have hin:∀ (j:Nat) (x:KLoc) (b:Nat),(ι.set id (.arr (k+1) e' s (.slice none 0 0)))[j]? = some x→x.block=some b→id≠j∧ι[j]? = some x:=fun j x b hx hb=>by
  by_cases ej:id=j
  ·subst ej; rw [List.getElem?_set_self hltι] at hx; cases hx
   simp [KLoc.block,Value.ownBlock] at hb
  ·rw [List.getElem?_set_ne ej] at hx; exact ⟨ej,hx⟩
 have ho2:HOK φ1 (ι.set id (.arr (k+1) e' s (.slice none 0 0))) (σ.set id .dead) w:=by
  refine ⟨ho1.len,fun b C hb=>?_,fun j x b hx hb=>?_,ho1.dis,ho1.lt,fun j o x h1 h2=>(ho1.obj j o x h1 h2).keep hle (.refl _) (fun _ _=>rfl)⟩
  ·replace hb:(if u.ownBlock=some b then allFrz w b else φ b)=some C:=hb
   split at hb
   ·exact (allFrz_hok w).fz b C hb
   ·exact ho.fz b C hb
  ·obtain ⟨hj,hx'⟩:=hin j x b hx hb
   show (if u.ownBlock=some b then allFrz w b else φ b)=none
   rw [if_neg fun hb2:u.ownBlock=some b=>hj (ho.dis id j _ x b hl hx' hb2 hb)]
   exact ho.nf j x b hx' hb
 have hr2:RelL φ1 [] args' vs:=⟨by rw [← ha.1]; exact hr.1,fun i d v hd hv=>by
  obtain ⟨c,hc⟩:=other ha.1 hd
  refine (ha.2 i c d hc hd).rel (ho.solo id) hle (fun j o l' b C e f h1 h2 h3 h4 h5=>?_) (hr.2 i c v hc hv)
  by_cases ej:id=j
  ·subst ej; rw [hl] at h3; cases h3
   show (if u.ownBlock=some b then allFrz w b else φ b)=some C
   rw [if_pos (show u.ownBlock=some b from h4)]; exact allFrz_own h5
  ·exact absurd (solo_ne ej h1) h2⟩
 have h0:HOK φ1 [] [] w:=by simpa using ho2.trunc 0 (fun o ho=>by simp at ho)
 have ht0:Tr σ.length φ ι w φ1 (ι.set id (.arr (k+1) e' s (.slice none 0 0))) w:=⟨hle,hLe.of_take _,fun _ _ _=>rfl,Nat.le_refl _,fun b ⟨j,x,hx,hb⟩=>.inl ⟨j,x,(hin j x b hx hb).2,hb⟩,rfl,rfl,rfl,fun b C hb=>by
  replace hb:(if u.ownBlock=some b then allFrz w b else φ b)=some C:=hb
  split at hb
  ·rename_i hb2; exact .inr (.inl ⟨id,_,hl,hb2⟩)
  ·exact .inl hb⟩
 refine (h.2 φ1 [] w vs hr2 h0).mono fun e w' ⟨v,v',φ',ι',s',h1,h2,h3,h4,h5⟩=>?_
 have hn:∀ b C,φ' b=some C→φ1 b=some C∨w.heap.size≤b:=fun b C hb=>by
  rcases h3.fn b C hb with q | ⟨_,_,q,_⟩ | q
  ·exact .inl q
  ·simp at q
  ·exact .inr q
 obtain ⟨j1,j2⟩:=join (φ2:=φ1) (σ':=s') ho2 ⟨.refl _,h3.l,h3.fr,h3.sz,h3.ow,h3.os,h3.tp,h3.out,fun _ _ h=>.inl h⟩ h3.f hn h4.fz h4.len h4.nf h4.dis h4.lt h4.obj
 have hK:=hk v s' h5
 rw [List.length_set] at j1 j2
 refine ⟨_,v',φ',_,_,h1,h2.ren (f:=sh σ.length) (fun j l hl=>?_),ht0.trans (j2.weaken (Nat.le_refl _)),j1,hK⟩
 rw [List.getElem?_append_right (by rw [List.length_set,ho.len]; simp [sh]),List.length_set,ho.len]
 simpa [sh] using hl
theorem Pure.give {P:Program} {f:FuncId} {args args':List PV} {r:PV} {σ:Heap} {K:PV→Heap→Prop} {id ver esz:Nat} {e:TypeId} {xs:List PV} (h:Pure P f args' r) (hid:σ[id]? = some (.arr ver e esz xs)) (ha:ImmL (solo σ id) args args') [hr:Still r]
  (hk:K r (σ.set id .dead)):ACall P f args σ K :=
 ACall.give hid h ha fun v s ⟨hv,hs⟩=>by
  subst hv; subst hs
  rw [hr.rn]; simpa using hk
theorem Fin.still {K:PV→Heap→Prop} {v:PV} {σ:Heap} [h:Still v] (hk:K v []):Fin 0 K v σ:=Fin.clean h.up hk
@[go_sem] theorem aggs_append (l m:List (List Int)):aggs l ++ aggs m=aggs (l ++ m):=by simp [aggs]
/-! ### A slice that begins as nil and grows by one each round -/
def nref (id:Nat):Nat→PV
 | 0=>.nils
 | x+1=>.ref id x 0 (x+1)
def nhp (σ:Heap):Nat→Heap
 | 0=>[]
 | _+1=>σ
@[go_sem] theorem nref_zero (id:Nat):nref id 0 = .nils:=Eq.trans rfl rfl
@[go_sem] theorem nref_succ (id x:Nat):nref id (x+1) = .ref id x 0 (x+1):=Eq.trans rfl rfl
@[go_sem] theorem nhp_zero (σ:Heap):nhp σ 0 = []:=Eq.trans rfl rfl
@[go_sem] theorem nhp_succ (σ:Heap) (x:Nat):nhp σ (x+1) = σ:=Eq.trans rfl rfl
@[go_sem] theorem OpK_nref {P:Program} {d:Option Nat} {r:List KO} {Q:Exit→Env→Heap→Prop} {env:Env} {σ:Heap} (id x:Nat):OpK P d r Q env (nref id x) σ = vOps P r Q (putD d (nref id x) env) σ:=Eq.trans rfl rfl
theorem OpK_eq {P:Program} {d:Option Nat} {r:List KO} {Q:Exit→Env→Heap→Prop} {env:Env} {σ:Heap} (v:PV):OpK P d r Q env v σ = vOps P r Q (putD d v env) σ:=Eq.trans rfl rfl
theorem nref_pos {id x:Nat} (h:0<x):nref id x = .ref id (x - 1) 0 x:=by cases x with | zero=>omega | succ x=>rfl
theorem nhp_pos {σ:Heap} {x:Nat} (h:0<x):nhp σ x = σ:=by cases x with | zero=>omega | succ x=>rfl
theorem flat_aggs {l:List (List Int)}:∀ c∈flat (aggs l),Plain c:=fun c hc=>by
 obtain ⟨x,hx,hcx⟩:=List.mem_flatMap.1 hc
 simp only [aggs,List.mem_map] at hx
 obtain ⟨m,_,rfl⟩:=hx
 exact Plain.ints m c hcx
theorem hp_new {σ:Heap} {n:Nat} (h:σ.length=n) (b:AObj):(σ ++ [b])[n]? = some b:=by subst h; simp
theorem hp_setn {σ:Heap} {n:Nat} (h:σ.length=n) (b b':AObj):(σ ++ [b]).set n b' = σ ++ [b']:=by subst h; simp
mutual
def PV.undr (n:Nat):PV→Bool
 | .undef | .int _ _ | .bool _ | .str _ | .nilptr | .nils | .nilf | .nili=>true
 | .agg cs=>PV.undrL n cs
 | .tup cs=>PV.undrL n cs
 | .ptr id _=>decide (id<n)
 | .fptr cs _=>PV.undrL n cs
 | .list xs=>PV.undrX n xs
 | .ref id _ _ _=>decide (id<n)
 | .eptr id _ _ _=>decide (id<n)
 | .bref id _ _=>decide (id<n)
 | .fn _ a b=>PV.undrL n a && PV.undrL n b
def PV.undrL (n:Nat):List PV→Bool
 | []=>true
 | c :: cs=>c.undr n && PV.undrL n cs
def PV.undrX (n:Nat):List PV→Bool
 | []=>true
 | c :: cs=>c.undr n && PV.undrX n cs
end
theorem undrL_all {n:Nat}:∀ {cs:List PV},PV.undrL n cs=true→∀ c∈cs,c.undr n=true
 | [],_,c,h=>by simp at h
 | a :: cs,hb,c,h=>by
  simp only [PV.undrL,Bool.and_eq_true] at hb
  rcases List.mem_cons.1 h with rfl | h
  ·exact hb.1
  ·exact undrL_all hb.2 c h
theorem undrX_all {n:Nat}:∀ {cs:List PV},PV.undrX n cs=true→∀ c∈cs,c.undr n=true
 | [],_,c,h=>by simp at h
 | a :: cs,hb,c,h=>by
  simp only [PV.undrX,Bool.and_eq_true] at hb
  rcases List.mem_cons.1 h with rfl | h
  ·exact hb.1
  ·exact undrX_all hb.2 c h
theorem undr_cells {n:Nat} {x:PV} (h:x.undr n=true):∀ c∈x.cs,c.undr n=true:=by
 cases x <;> simp only [PV.cs,List.mem_singleton,forall_eq] <;> first | exact h | skip
 simp only [PV.undr] at h
 exact undrL_all h
theorem Rel.undr {φ:Frz} {ι:List KLoc} {n:Nat} {c:PV} {v:Value} (hr:Rel φ ι c v):c.undr n=true→Rel φ (ι.take n) c v:=by
 induction hr with
 | undef v=>exact fun _=>.undef v
 | int k m=>exact fun _=>.int k m
 | bool b=>exact fun _=>.bool b
 | str s=>exact fun _=>.str s
 | agg cs vs h1 h2 _ ih =>
  intro h; simp only [PV.undr] at h
  exact .agg cs vs h1 h2 fun i c v hc hv=>ih i c v hc hv (undrL_all h c (List.mem_of_getElem? hc))
 | tup cs vs h1 _ ih =>
  intro h; simp only [PV.undr] at h
  exact .tup cs vs h1 fun i c v hc hv=>ih i c v hc hv (undrL_all h c (List.mem_of_getElem? hc))
 | ptr id off b hb =>
  intro h; simp only [PV.undr,decide_eq_true_eq] at h
  exact .ptr id off b (by rw [List.getElem?_take,if_pos h]; exact hb)
 | fptr cs off b o C hb hok g hg _ ih =>
  intro h; simp only [PV.undr] at h
  exact .fptr cs off b o C hb hok g hg fun j c hc=>ih j c hc (undrL_all h c (List.mem_of_getElem? hc))
 | nilptr=>exact fun _=>.nilptr
 | nils=>exact fun _=>.nils
 | list0 cap a=>exact fun _=>.list0 cap a
 | listn=>exact fun _=>.listn
 | list xs esz b o len cap C h1 hc hb hsz g hg _ ih =>
  intro h; simp only [PV.undr] at h
  exact .list xs esz b o len cap C h1 hc hb hsz g hg fun i x j c hx hcj=>ih i x j c hx hcj (undr_cells (undrX_all h x (List.mem_of_getElem? hx)) c (List.mem_of_getElem? hcj))
 | ref id ver off len v k e esz u hh ho hk hv =>
  intro h; simp only [PV.undr,decide_eq_true_eq] at h
  exact .ref id ver off len v k e esz u (by rw [List.getElem?_take,if_pos h]; exact hh) ho hk hv
 | eptr id ver i off v k e esz u hh ho hk hv =>
  intro h; simp only [PV.undr,decide_eq_true_eq] at h
  exact .eptr id ver i off v k e esz u (by rw [List.getElem?_take,if_pos h]; exact hh) ho hk hv
 | bref id off len b cap hh hc =>
  intro h; simp only [PV.undr,decide_eq_true_eq] at h
  exact .bref id off len b cap (by rw [List.getElem?_take,if_pos h]; exact hh) hc
 | fn f a b u v h1 h2 _ _ ih1 ih2 =>
  intro h; simp only [PV.undr,Bool.and_eq_true] at h
  exact .fn f a b u v h1 h2 (fun i c x hc hx=>ih1 i c x hc hx (undrL_all h.1 c (List.mem_of_getElem? hc))) (fun i c x hc hx=>ih2 i c x hc hx (undrL_all h.2 c (List.mem_of_getElem? hc)))
 | nilf=>exact fun _=>.nilf
 | nili=>exact fun _=>.nili
theorem undr_upto {n:Nat} {c:PV} (h:c.undr n=true):PV.upto n c:=fun φ ι v hr=>hr.undr h
theorem undrL_ints (n:Nat) (l:List Int):PV.undrL n (ints l)=true:=by
 induction l with
 | nil=>rfl
 | cons a l ih=>simp only [ints,List.map_cons,PV.undrL,PV.undr,Bool.true_and] at ih ⊢; exact ih
theorem undrX_ints (n:Nat) (l:List Int):PV.undrX n (ints l)=true:=by
 induction l with
 | nil=>rfl
 | cons a l ih=>simp only [ints,List.map_cons,PV.undrX,PV.undr,Bool.true_and] at ih ⊢; exact ih
theorem undrX_aggs (n:Nat) (l:List (List Int)):PV.undrX n (aggs l)=true:=by
 induction l with
 | nil=>rfl
 | cons a l ih=>simp only [aggs,List.map_cons,PV.undrX,PV.undr,undrL_ints,Bool.true_and] at ih ⊢; exact ih
theorem undrX_rows (n:Nat) (l:List (List Int)):PV.undrX n (rows l)=true:=by
 induction l with
 | nil=>rfl
 | cons a l ih=>simp only [rows,List.map_cons,PV.undrX,PV.undr,undrX_ints,Bool.true_and] at ih ⊢; exact ih
def Env.undr (n:Nat) (env:Env):Bool:=env.all fun x=>x.2.undr n
def AObj.undr (n:Nat):AObj→Bool
 | .dead=>true
 | .box cs=>PV.undrL n cs
 | .arr _ _ _ xs=>PV.undrX n xs
def Hb (n:Nat) (σ:Heap):Prop:=∀ o∈σ,AObj.upto n o
theorem Env.undr_upto {n:Nat} {env:Env} (h:Env.undr n env=true):Env.upto n env:=fun x hx=>by
 simp only [Env.undr,List.all_eq_true] at h
 exact Kv.undr_upto (h x hx)
theorem AObj.undr_upto {n:Nat} {o:AObj} (h:AObj.undr n o=true):AObj.upto n o:=by
 cases o with
 | dead=>trivial
 | box cs=>exact fun c hc=>Kv.undr_upto (undrL_all h c hc)
 | arr _ _ _ xs =>
  intro c hc
  obtain ⟨x,hx,hcx⟩:=List.mem_flatMap.1 hc
  exact Kv.undr_upto (undr_cells (undrX_all h x hx) c hcx)
theorem Hb.nil (n:Nat):Hb n []:=fun o h=>by simp at h
theorem Hb.cons {n:Nat} {o:AObj} {σ:Heap} (h:AObj.undr n o=true) (h':Hb n σ):Hb n (o :: σ):=fun x hx=>by
 rcases List.mem_cons.1 hx with rfl | hx
 ·exact AObj.undr_upto h
 ·exact h' x hx
theorem Hb.wf {σ:Heap} (h:Wf σ):Hb σ.length σ:=fun o ho=>h o (by rw [List.take_length]; exact ho)
theorem Hb.set {n:Nat} {o:AObj} {σ:Heap} (h:Hb n σ) (ho:AObj.undr n o=true) (i:Nat):Hb n (σ.set i o):=fun x hx=>by
 rcases List.mem_or_eq_of_mem_set hx with hx | rfl
 ·exact h x hx
 ·exact AObj.undr_upto ho
attribute [go_sem] undrL_ints undrX_ints undrX_aggs undrX_rows
theorem KL_indD {C:Cfg} {b:KC} {Q:Exit→Env→Heap→Prop} {env:Env} {σ:Heap} {α:Type} {b':KC} (hb:b=b') (E:α→Env) (H:α→Heap) (I:α→Prop) (m:α→Nat) (live:List Nat) (x0:α)
  (hE:keep live env=E x0) (hH:∃ junk,σ = H x0 ++ junk) (h0:I x0)
  (wf:∀ y,I y→C.n0≤(H y).length∧Env.upto (H y).length (E y)∧Hb (H y).length (H y))
  (step:∀ x,I x→(∀ y,I y→m y<m x→∀ env' σ',keep live env'=E y→(∃ junk,σ'=H y ++ junk)→KL C b Q env' σ')→vc C b' (LK C b Q) (E x) (H x)):KL C b Q env σ:=by
 have drop:∀ y,I y→∀ junk,KL C b Q (E y) (H y)→KL C b Q (E y) (H y ++ junk):=fun y hy junk h=>by
  obtain ⟨w1,w2,w3⟩:=wf y hy
  refine KL_drop (H y).length w1 (by simp) w2 (fun o ho=>w3 o (by simpa using ho)) ?_
  simpa using h
 subst hb
 have key:∀ (n:Nat) (x:α),m x<n→I x→KL C b Q (E x) (H x):=by
  intro n
  induction n with
  | zero=>intro x h; omega
  | succ n ih =>
   intro x h hi
   refine KL_round (step x hi fun y hy hm env' σ' he ⟨junk,hs⟩=>KL_keep live ?_)
   rw [he,hs]
   exact drop y hy junk (ih y (by omega) hy)
 refine KL_keep live ?_
 obtain ⟨junk,hH⟩:=hH
 rw [hE,hH]
 exact drop x0 h0 junk (key (m x0+1) x0 (by omega) h0)
end Go.Kv
end

/- Arguments that are plain numbers in rows: maps. -/
section
namespace Go.Kv
set_option linter.unusedVariables false
set_option linter.unusedSimpArgs false
theorem le_max {n:Nat} (h:n≤maxLen):n≤9223372036854775807:=by
 have hm:maxLen=9223372036854775807:=by decide
 omega
end Go.Kv
end

/- Bits: shifts, or, and, of natural numbers. -/
section
namespace Go.Kv
set_option linter.unusedVariables false
set_option linter.unusedSimpArgs false
variable {K:PV→Prop}
attribute [go_sem] take6 List.drop_zero Int.cast_ofNat_Int Nat.reduceEqDiff Nat.reduceAdd Nat.reduceMul Nat.reduceLeDiff Nat.reduceLT Int.reduceLE Int.reduceLT reduceCtorEq
attribute [go_sem ↓] reduceIte
end Go.Kv
end
