/- Several texts of this session as one, less what the claim does not need. -/
import Derived.Test.YtcfmmmloeaggmaaGreatCb
import Derived.Test.YtcfmmmloeaggmaaGreatZ5
import Derived.Test.YtcfmmmloeaggmaaGreatFC
namespace Go.Proofs.YtcfmmmloeaggmaaGreat
open Go.Kv
set_option linter.unusedVariables false
set_option linter.unusedSimpArgs false
section
section
section
set_option maxRecDepth 100000
def k143_b0:KC:=(.seq (.ops [oP 9 (.bin .lss (.t 8) (.t 7))])
 (.seq (.cond (.t 9) .skip (.exit 0))
 (.seq (.block 1 (.seq (.ops [mV 10 8,mV 5 10])
 (.seq (.ops [mV 11 1,mV 12 0,mV 13 5,oP 14 (.idxS 6 (.t 12) (.t 13)),oP 15 (.load true 6 (.t 14)),oP 16 (.call (.t 11) [(.t 15)])])
 (.cond (.t 16) (.seq (.ops [mV 17 5,mV 4 17])
 .ret) .skip))))
 (.ops [oP 18 (.bin .add (.t 8) (iC 1)),mV 8 18]))))
def k143:KC:=(.seq (.ops [oP 4 (.mv (iC 0))])
 (.seq (.seq (.ops [mV 6 0,oP 7 (.len false (.t 6)),oP 8 (.mv (iC 0))])
 (.block 0 (.loop k143_b0)))
 (.seq (.ops [oP 4 (.mv (iC (-1)))])
 .ret)))
theorem e143:Ent 143 19 [] [.t 4] k143:=ent Tryz.func143
end
section
attribute [local irreducible] ACall PCall KL
theorem p143 (l:List (List Int)) (hm:∀ x∈l,x.length=6) (hl:l.length≤4294967296) (fid:FuncId) (caps:List PV) [hc:StillL caps] (p:List Int→Bool) (hp:∀ x∈l,Pure Tryz.prog fid (.agg (ints x) :: caps) (.bool (p x))) :
  Pure Tryz.prog 143 [.list (aggs l),.fn (.func fid) [] caps] (.int .i64 (idx p l)):=by
 refine e143 (by simp) fun _ _=>?_
 simp only [k143,argEnv,go_sem]
 refine KL_ind k143_b0.eq_1 (fun x:Nat=>[(0,.list (aggs l)),(1,.fn (.func fid) [] caps),(7,.int .i64 l.length),(8,.int .i64 x)]) (fun _=>[]) (fun x=>x≤l.length∧(l.take x).any p=false) (fun x=>l.length - x) [0,1,7,8] 0 rfl rfl ⟨Nat.zero_le _,by simp⟩ fun x ⟨hx,hall⟩ ih=>?_
 try simp only [go_sem]
 refine ⟨fun h1=>⟨by omega,fun h2=>?_⟩,fun h1=>?_⟩
 ·rw [getD_eq h2]
  have h6:=hm _ (List.getElem_mem h2)
  try simp only [h6,go_sem]
  refine (hp _ (List.getElem_mem h2)).go ?_
  try simp only [go_sem]
  refine ⟨fun h3=>?_,fun h3=>⟨by omega,?_⟩⟩
  ·exact Kv.Fin.now ⟨by rw [idx_some h2 hall h3],rfl⟩
  ·refine ih (x+1) ⟨by omega,?_⟩ (by omega) _ _ rfl rfl
   rw [any_take_succ _ h2,hall,h3]; rfl
 ·obtain rfl:x=l.length:=by omega
  rw [List.take_length] at hall
  exact Kv.Fin.now ⟨by rw [idx_none hall],rfl⟩
end
end
section
section
set_option maxRecDepth 100000
def k196:KC:=(.seq (.ops [oP 4 (.mv (.c (.nils)))])
 (.seq (.seq (.ops [mV 5 1,oP 6 (.bin .lss (.t 5) (iC 0))])
 (.cond (.t 6) (.ops [oP 7 (.bad),⟨none,none,.bad⟩]) .skip))
 (.seq (.seq (.ops [mV 8 1,mV 9 0,oP 10 (.cap0 (.t 9)),mV 11 0,oP 12 (.len false (.t 11)),oP 13 (.bin .sub (.t 10) (.t 12)),oP 14 (.bin .sub (.t 8) (.t 13)),mV 1 14])
 (.seq (.ops [mV 15 1,oP 16 (.bin .gtr (.t 15) (iC 0))])
 (.cond (.t 16) (.ops [mV 17 0,mV 18 0,oP 19 (.cap0 (.t 18)),oP 20 (.sls 6 (.t 17) none (some (.t 19))),mV 21 1,oP 22 (.apn (.t 20) (.t 21) 48 6 (.agg [.int .i64 0,.int .i64 0,.int .i64 0,.int .i64 0,.int .i64 0,.int .i64 0])),mV 23 0,oP 24 (.len false (.t 23)),oP 25 (.sls 6 (.t 22) none (some (.t 24))),mV 0 25]) .skip)))
 (.seq (.ops [mV 26 0,mV 4 26])
 .ret))))
theorem e196:Ent 196 27 [] [.t 4] k196:=ent Tryz.func196
def k175_b0:KC:=(.seq (.ops [oP 12 (.bin .lss (.t 11) (.t 10))])
 (.seq (.cond (.t 12) .skip (.exit 0))
 (.seq (.block 1 (.seq (.ops [oP 13 (.idxS 1 (.t 9) (.t 11)),oP 14 (.load false 1 (.t 13)),mV 5 14])
 (.seq (.ops [mV 15 3,mV 16 5,oP 17 (.len false (.t 16)),oP 18 (.bin .add (.t 15) (.t 17)),mV 3 18])
 (.seq (.ops [mV 19 3,oP 20 (.bin .lss (.t 19) (iC 0))])
 (.cond (.t 20) (.ops [oP 21 (.bad),⟨none,none,.bad⟩]) .skip)))))
 (.ops [oP 22 (.bin .add (.t 11) (iC 1)),mV 11 22]))))
def k175_b1:KC:=(.seq (.ops [oP 28 (.bin .lss (.t 27) (.t 26))])
 (.seq (.cond (.t 28) .skip (.exit 2))
 (.seq (.block 3 (.seq (.ops [oP 29 (.idxS 1 (.t 25) (.t 27)),oP 30 (.load false 1 (.t 29)),mV 8 30])
 (.ops [mV 31 6,mV 32 8,oP 33 (.app (.t 31) (.t 32) 48 6),mV 6 33])))
 (.ops [oP 34 (.bin .add (.t 27) (iC 1)),mV 27 34]))))
def k175:KC:=(.seq (.ops [oP 2 (.mv (.c (.nils)))])
 (.seq (.ops [oP 3 (.mv (iC 0))])
 (.seq (.seq (.ops [mV 9 0,oP 10 (.len false (.t 9)),oP 11 (.mv (iC 0))])
 (.block 0 (.loop k175_b0)))
 (.seq (.ops [mV 23 3,oP 24 (.call (fC 196) [(.c (.nils)),(.t 23)]),mV 6 24])
 (.seq (.seq (.ops [mV 25 0,oP 26 (.len false (.t 25)),oP 27 (.mv (iC 0))])
 (.block 2 (.loop k175_b1)))
 (.seq (.ops [mV 35 6,mV 2 35])
 .ret))))))
theorem e175:Ent 175 36 [] [.t 2] k175:=ent Tryz.func175
end
section
attribute [local irreducible] ACall PCall KL
theorem aggs_repl (n:Nat):List.replicate n (PV.agg [.int .i64 0,.int .i64 0,.int .i64 0,.int .i64 0,.int .i64 0,.int .i64 0])=aggs (List.replicate n [0,0,0,0,0,0]):=by simp [aggs,ints]
end
end
section
section
attribute [local irreducible] ACall PCall KL
theorem p196 (n:Int) (h00:0≤n) (hn:n≤4294967296) {K:PV→Heap→Prop} (h0:n=0→K .nils []) (h1:0<n→K (.ref 0 0 0 0) [.arr 0 48 6 (aggs (List.replicate n.toNat [0,0,0,0,0,0]))]) :
  ACall Tryz.prog 196 [.nils,.int .i64 n] [] K:=by
 refine e196 (by simp) fun _ _=>?_
 simp only [k196,argEnv,go_sem]
 repeat' (first | refine And.intro ?_ ?_ | intro _)
 all_goals (try omega)
 ·rename_i hp
  have e:n - (0 - 0)=n:=by omega
  rw [e,aggs_repl]
  exact Kv.Fin.now (h1 (by omega))
 ·exact Kv.Fin.now (h0 (by omega))
inductive Ms:PV→List (List Int)→Prop
 | nil:Ms .nils []
 | list (l:List (List Int)):Ms (.list (aggs l)) l
theorem p175 (w:PV) (a b:List (List Int)) (hw:Ms w b) (ha:a.length≤1048576) (hb:b.length≤1048576) (hma:∀ r∈a,r.length=6) (hmb:∀ r∈b,r.length=6) :
  ACall Tryz.prog 175 [.list [.list (aggs a),w]] [] (fun v s=>∃ ver,v = .ref 0 ver 0 (a ++ b).length∧s = [.arr ver 48 6 (aggs (a ++ b))]):=by
 have hoa:=okL_aggs 6 a
 have hob:=okL_aggs 6 b
 rw [eq_true hma] at hoa
 rw [eq_true hmb] at hob
 have hap:aggs a ++ aggs b=aggs (a ++ b):=by simp [aggs]
 have hnil:aggs ([]:List (List Int)) = []:=rfl
 cases hw
 all_goals
  refine e175 (by simp) fun _ _=>?_
  simp only [k175,argEnv,go_sem]
  refine KL_round ?_
  rw [k175_b0.eq_1]
  try simp only [go_sem]
  repeat' (first | refine And.intro ?_ ?_ | intro _)
  all_goals (try omega)
  refine KL_round ?_
  try simp only [Int.reduceAdd,Int.reduceToNat,Int.zero_add,go_sem]
  repeat' (first | refine And.intro ?_ ?_ | intro _)
  all_goals (try omega)
  refine KL_round ?_
  try simp only [Int.reduceAdd,Int.reduceToNat,Int.zero_add,go_sem]
  repeat' (first | refine And.intro ?_ ?_ | intro _)
  all_goals (try omega)
  refine (p196 _ (by omega) (by omega) (fun h0=>?_) (fun h0=>?_))
 all_goals
  try simp only [go_sem]
  refine KL_round ?_
  rw [k175_b1.eq_1]
  try simp only [hoa,hob,hap,hnil,go_sem]
  repeat' (first | refine And.intro ?_ ?_ | intro _)
  all_goals (try omega)
  refine KL_round ?_
  try simp only [Int.reduceAdd,Int.reduceToNat,Int.zero_add,hoa,hob,hap,hnil,go_sem]
  repeat' (first | refine And.intro ?_ ?_ | intro _)
  all_goals (try omega)
  refine KL_round ?_
  try simp only [Int.reduceAdd,Int.reduceToNat,Int.zero_add,hoa,hob,hap,hnil,go_sem]
  repeat' (first | refine And.intro ?_ ?_ | intro _)
  all_goals (try omega)
  refine Kv.Fin.now ?_
 ·exact ⟨1,rfl,rfl⟩
 ·exact ⟨2,rfl,by simp⟩
 ·exact ⟨1,rfl,rfl⟩
 ·exact ⟨2,rfl,by simp⟩
theorem Imm.refs {σ:Heap} {id ver n:Nat} {e:TypeId} {cs:List PV} (h:σ[id]? = some (.arr ver e 1 cs)) (hn:n=cs.length) (hc:∀ c∈cs,c.cs = [c]∧c.ok=true∧Still c):Imm σ (.ref id ver 0 n) (.list cs):=by
 subst hn
 exact .ref id ver 0 cs.length e 1 cs cs h (by simp) rfl
  (fun i x d hx hd=>by simp only [Nat.zero_add,hd,Option.some.injEq] at hx; subst hx; have h1:=hc _ (List.mem_of_getElem? hd); rw [h1.1]; exact ⟨rfl,by simp [h1.2.1]⟩)
  (fun i x d j c c' hx hd hcc hc'=>by
   simp only [Nat.zero_add,hd,Option.some.injEq] at hx; subst hx
   have h1:=hc _ (List.mem_of_getElem? hd)
   rw [hcc] at hc'; cases hc'
   rw [h1.1] at hcc
   have:=List.mem_of_getElem? hcc
   simp only [List.mem_singleton] at this; subst this
   have:=h1.2.2
   exact Imm.still)
theorem Ms.still {w:PV} {l:List (List Int)} (h:Ms w l):w.cs = [w]∧w.ok=true∧Still w:=by
 cases h
 ·exact ⟨rfl,rfl,inferInstance⟩
 ·exact ⟨rfl,rfl,inferInstance⟩
theorem p175L (σ:Heap) (id:Nat) (w:PV) (a b:List (List Int)) (hw:Ms w b) (hid:σ[id]? = some (.arr 0 24 1 [.list (aggs a),w])) (ha:a.length≤1048576) (hb:b.length≤1048576) (hma:∀ r∈a,r.length=6) (hmb:∀ r∈b,r.length=6) {K:PV→Heap→Prop}
  (hK:∀ ver,K (.ref σ.length ver 0 (a ++ b).length) (σ ++ [.arr ver 48 6 (aggs (a ++ b))])) :
  ACall Tryz.prog 175 [.ref id 0 0 2] σ K:=by
 have him:Imm σ (.ref id 0 0 2) (.list [.list (aggs a),w]):=Imm.refs hid rfl fun c hc=>by
  simp only [List.mem_cons,List.not_mem_nil,or_false] at hc
  rcases hc with rfl | rfl
  ·exact ⟨rfl,rfl,inferInstance⟩
  ·exact hw.still
 refine ACall.lend (p175 w a b hw ha hb hma hmb) (.cons him (.nil _)) fun v s ⟨ver,hv,hs⟩=>?_
 subst hv; subst hs
 refine ⟨⟨free_ref _ _ _ _,?_⟩,?_⟩
 ·intro o ho
  simp only [List.mem_singleton] at ho; subst ho
  exact fun c hc=>(flat_aggs c hc).fr
 ·simpa only [ren_ref,ren_arr,ren_aggs,List.map_cons,List.map_nil,sh_def,Nat.zero_add] using hK ver
end
end
section
section
attribute [local irreducible] ACall PCall KL
def ch (n:Nat):Nat→Int
 | 0=>1
 | i+1=>ch n i * ((n:Int) - i) / ((i:Int)+1)
def si (n:Nat):Nat→Int
 | 0=>0
 | k+1=>si n k+ch n (k+1) * (((k+1:Nat):Int) ^ (n - (k+1)))
end
end
section
section
set_option maxRecDepth 100000
def k118_b0:KC:=(.seq (.ops [oP 15 (.bin .lss (.t 14) (.t 13))])
 (.seq (.cond (.t 15) .skip (.exit 0))
 (.seq (.block 1 (.seq (.ops [oP 16 (.idxS 6 (.t 12) (.t 14)),oP 17 (.load true 6 (.t 16)),oP 6 (.alloc [.int .i64 0,.int .i64 0,.int .i64 0,.int .i64 0,.int .i64 0,.int .i64 0]),⟨none,none,.store 6 (.t 6) (.t 17)⟩])
 (.seq (.ops [oP 18 (.load true 6 (.t 6)),oP 19 (.call (fC 65) [(.t 18)]),oP 20 (.not (.t 19))])
 (.cond (.t 20) (.seq (.ops [oP 4 (.mv (iC 1))])
 .ret) .skip))))
 (.ops [oP 21 (.bin .add (.t 14) (iC 1)),mV 14 21]))))
def k118_b1:KC:=(.seq (.ops [oP 32 (.bin .lss (.t 31) (.t 30))])
 (.seq (.cond (.t 32) .skip (.exit 2))
 (.seq (.block 3 (.seq (.ops [oP 33 (.idxS 6 (.t 29) (.t 31)),oP 34 (.load true 6 (.t 33)),oP 8 (.alloc [.int .i64 0,.int .i64 0,.int .i64 0,.int .i64 0,.int .i64 0,.int .i64 0]),⟨none,none,.store 6 (.t 8) (.t 34)⟩])
 (.seq (.draw [oP 35 (.fieldA 0 (.t 8)),oP 36 (.load false 1 (.t 35)),mV 37 0,oP 38 (.idxS 6 (.t 37) (iC 0)),oP 39 (.fieldA 0 (.t 38)),oP 40 (.load false 1 (.t 39)),oP 41 (.bin .neq (.t 36) (.t 40))])
 (.cond (.t 41) (.seq (.ops [oP 4 (.mv (iC 2))])
 .ret) .skip))))
 (.ops [oP 42 (.bin .add (.t 31) (iC 1)),mV 31 42]))))
def k118:KC:=(.seq (.ops [oP 4 (.mv (iC 0))])
 (.seq (.seq (.ops [mV 9 0,mV 10 1,oP 11 (.bsl false 24 1 [(.t 9),(.t 10)]),oP 12 (.call (fC 175) [(.t 11)]),oP 13 (.len false (.t 12)),oP 14 (.mv (iC 0))])
 (.block 0 (.loop k118_b0)))
 (.seq (.seq (.ops [mV 22 0,oP 23 (.len false (.t 22)),oP 24 (.call (fC 80) [(.t 23),(iC 1),(iC 6)]),oP 25 (.not (.t 24))])
 (.cond (.t 25) (.seq (.ops [oP 4 (.mv (iC 2))])
 .ret) .skip))
 (.seq (.seq (.ops [mV 26 0,mV 27 1,oP 28 (.bsl false 24 1 [(.t 26),(.t 27)]),oP 29 (.call (fC 175) [(.t 28)]),oP 30 (.len false (.t 29)),oP 31 (.mv (iC 0))])
 (.block 2 (.loop k118_b1)))
 (.seq (.ops [oP 4 (.mv (iC 0))])
 .ret)))))
theorem e118:Ent 118 43 [] [.t 4] k118:=ent Tryz.func118
def k132_b0:KC:=(.seq (.seq (.ops [mV 8 5,mV 9 0,oP 10 (.len false (.t 9)),oP 11 (.bin .lss (.t 8) (.t 10))])
 (.cond (.t 11) .skip (.exit 0)))
 (.seq (.block 1 (.seq (.ops [mV 14 0,mV 15 5,oP 16 (.idxS 6 (.t 14) (.t 15)),oP 17 (.load true 6 (.t 16)),oP 18 (.call (fC 178) [(.t 17)]),oP 19 (.not (.t 18))])
 (.cond (.t 19) (.seq (.ops [oP 4 (.mv (iC 1))])
 .ret) .skip)))
 (.ops [mV 12 5,oP 13 (.bin .add (.t 12) (iC 1)),mV 5 13])))
def k132_b1:KC:=(.seq (.seq (.ops [mV 20 6,mV 21 1,oP 22 (.len false (.t 21)),oP 23 (.bin .lss (.t 20) (.t 22))])
 (.cond (.t 23) .skip (.exit 2)))
 (.seq (.block 3 (.seq (.ops [mV 26 1,mV 27 6,oP 28 (.idxS 6 (.t 26) (.t 27)),oP 29 (.load true 6 (.t 28)),oP 30 (.call (fC 178) [(.t 29)]),oP 31 (.not (.t 30))])
 (.cond (.t 31) (.seq (.ops [oP 4 (.mv (iC 1))])
 .ret) .skip)))
 (.ops [mV 24 6,oP 25 (.bin .add (.t 24) (iC 1)),mV 6 25])))
def k132_b2:KC:=(.seq (.seq (.ops [mV 35 7,mV 36 1,oP 37 (.len false (.t 36)),oP 38 (.bin .lss (.t 35) (.t 37))])
 (.cond (.t 38) .skip (.exit 4)))
 (.seq (.block 5 (.seq (.draw [mV 41 1,mV 42 7,oP 43 (.idxS 6 (.t 41) (.t 42)),oP 44 (.fieldA 0 (.t 43)),oP 45 (.load false 1 (.t 44)),mV 46 0,oP 47 (.idxS 6 (.t 46) (iC 0)),oP 48 (.fieldA 0 (.t 47)),oP 49 (.load false 1 (.t 48)),oP 50 (.bin .neq (.t 45) (.t 49))])
 (.cond (.t 50) (.seq (.ops [oP 4 (.mv (iC 2))])
 .ret) .skip)))
 (.ops [mV 39 7,oP 40 (.bin .add (.t 39) (iC 1)),mV 7 40])))
def k132:KC:=(.seq (.ops [oP 4 (.mv (iC 0))])
 (.seq (.seq (.ops [oP 5 (.mv (iC 0))])
 (.block 0 (.loop k132_b0)))
 (.seq (.seq (.ops [oP 6 (.mv (iC 0))])
 (.block 2 (.loop k132_b1)))
 (.seq (.seq (.ops [mV 32 0,oP 33 (.call (fC 127) [(.t 32)]),oP 34 (.not (.t 33))])
 (.cond (.t 34) (.seq (.ops [oP 4 (.mv (iC 2))])
 .ret) .skip))
 (.seq (.seq (.ops [oP 7 (.mv (iC 0))])
 (.block 4 (.loop k132_b2)))
 (.seq (.ops [oP 4 (.mv (iC 0))])
 .ret))))))
theorem e132:Ent 132 51 [] [.t 4] k132:=ent Tryz.func132
def k127_b0:KC:=(.seq (.seq (.ops [mV 12 3,mV 13 0,oP 14 (.len false (.t 13)),oP 15 (.bin .lss (.t 12) (.t 14))])
 (.cond (.t 15) .skip (.exit 0)))
 (.seq (.block 1 (.seq (.draw [mV 18 0,mV 19 3,oP 20 (.idxS 6 (.t 18) (.t 19)),oP 21 (.load true 6 (.t 20)),oP 22 (.pcall (fC 178) [(.t 21)]),oP 23 (.not (.t 22)),mV 24 23,⟨(some 25),some (24,false),.mv (.t 0)⟩,⟨(some 26),some (24,false),.mv (.t 3)⟩,⟨(some 27),some (24,false),.idxS 6 (.t 25) (.t 26)⟩,⟨(some 28),some (24,false),.fieldA 0 (.t 27)⟩,⟨(some 29),some (24,false),.load false 1 (.t 28)⟩,⟨(some 30),some (24,false),.mv (.t 0)⟩,⟨(some 31),some (24,false),.idxS 6 (.t 30) (iC 0)⟩,⟨(some 32),some (24,false),.fieldA 0 (.t 31)⟩,⟨(some 33),some (24,false),.load false 1 (.t 32)⟩,⟨(some 34),some (24,false),.bin .neq (.t 29) (.t 33)⟩,oP 35 (.pick (.t 24) (.c (.bool true)) (.t 34))])
 (.cond (.t 35) (.seq (.ops [oP 2 (.mv (.c (.bool false)))])
 .ret) .skip)))
 (.ops [mV 16 3,oP 17 (.bin .add (.t 16) (iC 1)),mV 3 17])))
def k127:KC:=(.seq (.ops [oP 2 (.mv (.c (.bool false)))])
 (.seq (.seq (.ops [mV 4 0,oP 5 (.len false (.t 4)),oP 6 (.bin .lss (.t 5) (iC 1)),mV 7 6,⟨(some 8),some (7,false),.mv (.t 0)⟩,⟨(some 9),some (7,false),.len false (.t 8)⟩,⟨(some 10),some (7,false),.bin .gtr (.t 9) (iC 6)⟩,oP 11 (.pick (.t 7) (.c (.bool true)) (.t 10))])
 (.cond (.t 11) (.seq (.ops [oP 2 (.mv (.c (.bool false)))])
 .ret) .skip))
 (.seq (.seq (.ops [oP 3 (.mv (iC 0))])
 (.block 0 (.loop k127_b0)))
 (.seq (.ops [oP 2 (.mv (.c (.bool true)))])
 .ret))))
theorem e127:Ent 127 36 [] [.t 2] k127:=ent Tryz.func127
end
section
attribute [local irreducible] ACall PCall KL
def lcode (a b:List (List Int)):Int :=
 if (a ++ b).all isM=false then 1 else if ¬ (1≤a.length∧a.length≤6) then 2 else if (a ++ b).all (fun r=>decide (r.getD 0 0=(a.getD 0 []).getD 0 0))=false then 2 else 0
theorem all_false {α:Type} {l:List α} {x:Nat} {p:α→Bool} (h:x<l.length) (hp:p l[x]=false):l.all p=false:=by
 rw [List.all_eq_false]; exact ⟨l[x],List.getElem_mem h,by simp [hp]⟩
theorem p118 (w:PV) (a b:List (List Int)) (hw:Ms w b) (ha:a.length≤1048576) (hb:b.length≤1048576) (hma:∀ r∈a,r.length=6) (hmb:∀ r∈b,r.length=6) :
  Pure Tryz.prog 118 [.list (aggs a),w] (.int .i64 (lcode a b)):=by
 have hab:∀ r∈a ++ b,r.length=6:=fun r hr=>(List.mem_append.1 hr).elim (hma r) (hmb r)
 have hlab:(a ++ b).length≤2097152:=by simp; omega
 have hwu:∀ n,w.undr n=true:=fun n=>by cases hw <;> simp [PV.undr,undrX_aggs]
 have hwc:=hw.still
 have hwk:w.cs.length=1:=by rw [hwc.1]; rfl
 have hwk2:w.cs.all PV.ok=true:=by rw [hwc.1]; simp [hwc.2.1]
 refine e118 (by simp) fun _ _=>?_
 simp only [k118,argEnv,OpK_eq,hwk,hwk2,go_sem]
 refine p175L _ 0 w a b hw rfl ha hb hma hmb fun ver=>?_
 try simp only [go_sem]
 have hsum:a.length+b.length=(a ++ b).length:=by simp
 rw [hsum]
 have hlc:lcode a b=if (a ++ b).all isM=false then 1 else if ¬ (1≤a.length∧a.length≤6) then 2 else if (a ++ b).all (fun r=>decide (r.getD 0 0=(a.getD 0 []).getD 0 0))=false then 2 else 0:=rfl
 generalize hL:a ++ b=l at *
 refine KL_indD k118_b0.eq_1 (fun x:Nat=>[(0,.list (aggs a)),(1,w),(12,.ref 1 ver 0 l.length),(13,.int .i64 l.length),(14,.int .i64 x)]) (fun _=>[.arr 0 24 1 [.list (aggs a),w],.arr ver 48 6 (aggs l)]) (fun x=>x≤l.length∧(l.take x).all isM=true) (fun x=>l.length - x) [0,1,12,13,14] 0 (by rfl) ⟨[],rfl⟩ ⟨Nat.zero_le _,by simp⟩ (fun x hx=>?_) fun x ⟨hx,hall⟩ ih=>?_
 ·refine ⟨Nat.zero_le _,?_,?_⟩
  ·exact Env.undr_upto (by simp [Env.undr,PV.undr,hwu,undrX_aggs])
  ·exact .cons (by simp [AObj.undr,PV.undr,PV.undrX,hwu,undrX_aggs]) (.cons (by simp [AObj.undr,undrX_aggs]) (.nil _))
 try simp only [go_sem]
 refine ⟨fun h1=>⟨by omega,by omega,fun h2=>?_⟩,fun h1=>?_⟩
 ·have h6:=hab _ (List.getElem_mem h2)
  rw [getD_eq h2]
  try simp only [h6,go_sem]
  refine (p65 _ h6).go ?_
  try simp only [go_sem]
  refine ⟨fun h3=>?_,fun h3=>⟨by omega,?_⟩⟩
  ·refine Kv.Fin.still ⟨?_,rfl⟩
   rw [hlc,if_pos (all_false h2 h3)]
  ·refine ih (x+1) ⟨by omega,?_⟩ (by omega) _ _ (by rfl) ⟨[_],rfl⟩
   rw [all_take_succ _ h2,hall,h3]; rfl
 ·obtain rfl:x=l.length:=by omega
  rw [List.take_length] at hall
  have hlc:lcode a b=if ¬ (1≤a.length∧a.length≤6) then 2 else if l.all (fun r=>decide (r.getD 0 0=(a.getD 0 []).getD 0 0))=false then 2 else 0:=by rw [hlc,if_neg (by rw [hall]; simp)]
  refine (p80 _ _ _).go ?_
  try simp only [go_sem]
  refine ⟨fun h2=>Kv.Fin.still ⟨by rw [hlc,if_pos (by omega)],rfl⟩,fun h2=>?_⟩
  have hlc:lcode a b=if l.all (fun r=>decide (r.getD 0 0=(a.getD 0 []).getD 0 0))=false then 2 else 0:=by rw [hlc,if_neg (by omega)]
  try simp only [OpK_eq,hwk,hwk2,go_sem]
  refine p175L _ 2 w a b hw rfl ha hb hma hmb fun ver2=>?_
  rw [hL]
  try simp only [go_sem]
  have h0:0<a.length:=by omega
  have h06:(a.getD 0 []).length=6:=by rw [getD_eq h0]; exact hma _ (List.getElem_mem h0)
  refine KL_indD k118_b1.eq_1 (fun x:Nat=>[(0,.list (aggs a)),(29,.ref 3 ver2 0 l.length),(30,.int .i64 l.length),(31,.int .i64 x)]) (fun _=>[.arr 0 24 1 [.list (aggs a),w],.arr ver 48 6 (aggs l),.arr 0 24 1 [.list (aggs a),w],.arr ver2 48 6 (aggs l)]) (fun x=>x≤l.length∧(l.take x).all (fun r=>decide (r.getD 0 0=(a.getD 0 []).getD 0 0))=true) (fun x=>l.length - x) [0,29,30,31] 0 (by rfl) ⟨[],rfl⟩ ⟨Nat.zero_le _,by simp⟩ (fun x hx=>?_) fun x ⟨hx,hall⟩ ih=>?_
  ·refine ⟨Nat.zero_le _,?_,?_⟩
   ·exact Env.undr_upto (by simp [Env.undr,PV.undr,hwu,undrX_aggs])
   ·exact .cons (by simp [AObj.undr,PV.undr,PV.undrX,hwu,undrX_aggs]) (.cons (by simp [AObj.undr,undrX_aggs]) (.cons (by simp [AObj.undr,PV.undr,PV.undrX,hwu,undrX_aggs]) (.cons (by simp [AObj.undr,undrX_aggs]) (.nil _))))
  try simp only [go_sem]
  refine ⟨fun h1=>⟨by omega,by omega,fun h2=>?_⟩,fun h1=>?_⟩
  ·have h6:=hab _ (List.getElem_mem h2)
   rw [getD_eq h2]
   try simp only [h6,h06,h0,go_sem]
   refine ⟨by omega,fun h3=>?_,fun h3=>⟨by omega,?_⟩⟩
   ·refine Kv.Fin.still ⟨?_,rfl⟩
    rw [hlc,if_pos (all_false h2 (by simpa using h3))]
   ·refine ih (x+1) ⟨by omega,?_⟩ (by omega) _ _ (by rfl) ⟨[_],rfl⟩
    rw [all_take_succ _ h2,hall,h3]; simp
  ·obtain rfl:x=l.length:=by omega
   rw [List.take_length] at hall
   exact Kv.Fin.still ⟨by rw [hlc,if_neg (by rw [hall]; simp)],rfl⟩
def same (l:List (List Int)):Bool:=decide (1≤l.length∧l.length≤6) && l.all fun r=>isM r && decide (r.getD 0 0=(l.getD 0 []).getD 0 0)
theorem p127 (l:List (List Int)) (hl:l.length≤1048576) (hm:∀ r∈l,r.length=6):Pure Tryz.prog 127 [.list (aggs l)] (.bool (same l)):=by
 have hsame:same l=(decide (1≤l.length∧l.length≤6) && l.all fun r=>isM r && decide (r.getD 0 0=(l.getD 0 []).getD 0 0)):=rfl
 refine e127 (by simp) fun _ _=>?_
 simp only [k127,argEnv,go_sem]
 refine ⟨fun h1=>⟨fun h2=>?_,fun h2=>?_⟩,fun h1=>?_⟩
 ·exact Kv.Fin.still ⟨by rw [hsame,decide_eq_false (by omega)]; rfl,rfl⟩
 ·have hsame:same l=l.all fun r=>isM r && decide (r.getD 0 0=(l.getD 0 []).getD 0 0):=by rw [hsame,decide_eq_true (by omega),Bool.true_and]
  have h0:0<l.length:=by omega
  have h06:(l.getD 0 []).length=6:=by rw [getD_eq h0]; exact hm _ (List.getElem_mem h0)
  refine KL_ind k127_b0.eq_1 (fun x:Nat=>[(0,.list (aggs l)),(3,.int .i64 x)]) (fun _=>[]) (fun x=>x≤l.length∧(l.take x).all (fun r=>isM r && decide (r.getD 0 0=(l.getD 0 []).getD 0 0))=true) (fun x=>l.length - x) [0,3] 0 (by rfl) rfl ⟨Nat.zero_le _,by simp⟩ fun x ⟨hx,hall⟩ ih=>?_
  try simp only [go_sem]
  refine ⟨fun h3=>⟨by omega,fun h4=>?_⟩,fun h3=>?_⟩
  ·have h6:=hm _ (List.getElem_mem h4)
   rw [getD_eq h4]
   try simp only [h6,go_sem]
   refine (p178 _ h6).pgo ?_
   cases hM:isM l[x] with
   | false =>
    try simp only [go_sem]
    exact Kv.Fin.still ⟨by rw [hsame,all_false h4 (by simp [hM])],rfl⟩
   | true =>
    try simp only [go_sem]
    refine ⟨by omega,fun h5=>?_⟩
    rw [getD_eq h4]
    try simp only [h6,h06,h0,go_sem]
    refine ⟨by omega,fun h7=>?_,fun h7=>⟨by omega,?_⟩⟩
    ·exact Kv.Fin.still ⟨by rw [hsame,all_false h4 (by simp only [hM,Bool.true_and]; exact decide_eq_false h7)],rfl⟩
    ·refine ih (x+1) ⟨by omega,?_⟩ (by omega) _ _ (by rfl) rfl
     rw [all_take_succ _ h4,hall,hM,h7]; simp
  ·obtain rfl:x=l.length:=by omega
   rw [List.take_length] at hall
   exact Kv.Fin.still ⟨by rw [hsame,hall],rfl⟩
 ·exact Kv.Fin.still ⟨by rw [hsame,decide_eq_false (by omega)]; rfl,rfl⟩
theorem lcode_eq (a b:List (List Int)):lcode a b=if a.all isM=false then 1 else if b.all isM=false then 1 else if same a=false then 2 else if b.all (fun r=>decide (r.getD 0 0=(a.getD 0 []).getD 0 0))=false then 2 else 0:=by
 have h3:a.all isM=true→(a.all fun r=>isM r && decide (r.getD 0 0=(a.getD 0 []).getD 0 0))=a.all fun r=>decide (r.getD 0 0=(a.getD 0 []).getD 0 0):=fun h1=>by
  rw [Bool.eq_iff_iff]
  simp only [List.all_eq_true,Bool.and_eq_true] at h1 ⊢
  exact ⟨fun h r hr=>(h r hr).2,fun h r hr=>⟨h1 r hr,h r hr⟩⟩
 simp only [lcode,List.all_append]
 cases h1:a.all isM
 ·simp only [Bool.false_and,if_true]
 cases h2:b.all isM
 ·simp only [Bool.true_and,if_true,Bool.false_and,reduceCtorEq,if_false]
 have hs:same a=(decide (1≤a.length∧a.length≤6) && a.all fun r=>decide (r.getD 0 0=(a.getD 0 []).getD 0 0)):=by unfold same; rw [h3 h1]
 rw [hs]
 generalize (a.all fun r=>decide (r.getD 0 0=(a.getD 0 []).getD 0 0))=x
 generalize (b.all fun r=>decide (r.getD 0 0=(a.getD 0 []).getD 0 0))=y
 by_cases hc:(1≤a.length∧a.length≤6) <;> cases x <;> cases y <;> simp [hc]
theorem p132n (a:List (List Int)) (ha:a.length≤1048576) (hma:∀ r∈a,r.length=6) :
  Pure Tryz.prog 132 [.list (aggs a),.nils] (.int .i64 (lcode a [])):=by
 rw [lcode_eq]
 refine e132 (by simp) fun _ _=>?_
 simp only [k132,argEnv,go_sem]
 refine KL_ind k132_b0.eq_1 (fun x:Nat=>[(0,.list (aggs a)),(1,.nils),(5,.int .i64 x)]) (fun _=>[]) (fun x=>x≤a.length∧(a.take x).all isM=true) (fun x=>a.length - x) [0,1,5] 0 (by rfl) rfl ⟨Nat.zero_le _,by simp⟩ fun x ⟨hx,hall⟩ ih=>?_
 try simp only [go_sem]
 refine ⟨fun h3=>⟨by omega,fun h4=>?_⟩,fun h3=>?_⟩
 ·have h6:=hma _ (List.getElem_mem h4)
  rw [getD_eq h4]
  try simp only [h6,go_sem]
  refine (p178 _ h6).go ?_
  try simp only [go_sem]
  refine ⟨fun h5=>Kv.Fin.still ⟨by rw [if_pos (all_false h4 h5)],rfl⟩,fun h5=>⟨by omega,?_⟩⟩
  refine ih (x+1) ⟨by omega,?_⟩ (by omega) _ _ (by rfl) rfl
  rw [all_take_succ _ h4,hall,h5]; rfl
 obtain rfl:x=a.length:=by omega
 rw [List.take_length] at hall
 rw [if_neg (by rw [hall]; simp)]
 clear ih
 refine KL_round ?_
 rw [k132_b1.eq_1]
 try simp only [Int.reduceNeg,Int.lt_irrefl,go_sem]
 refine (p127 a ha hma).go ?_
 cases hs:same a with
 | false =>
  try simp only [go_sem]
  exact Kv.Fin.still ⟨by simp,rfl⟩
 | true =>
  try simp only [go_sem]
  refine KL_round ?_
  rw [k132_b2.eq_1]
  try simp only [Int.lt_irrefl,go_sem]
  exact Kv.Fin.still ⟨by simp,rfl⟩
end
end
section
section
set_option maxRecDepth 100000
def k149_b0:KC:=(.seq (.ops [oP 11 (.bin .lss (.t 10) (.t 9))])
 (.seq (.cond (.t 11) .skip (.exit 0))
 (.seq (.block 1 (.seq (.ops [oP 12 (.idxS 1 (.t 8) (.t 10)),oP 13 (.load false 1 (.t 12)),mV 7 13])
 (.seq (.seq (.ops [mV 14 7,mV 15 5,oP 16 (.call (fC 80) [(.t 14),(iC 0),(.t 15)]),oP 17 (.not (.t 16))])
 (.cond (.t 17) (.seq (.ops [oP 4 (.mv (.c (.bool false)))])
 .ret) .skip))
 (.seq (.ops [mV 18 7,mV 19 5,oP 20 (.bin .eql (.t 18) (.t 19))])
 (.cond (.t 20) (.ops [mV 21 5,oP 22 (.bin .add (.t 21) (iC 1)),mV 5 22]) .skip)))))
 (.ops [oP 23 (.bin .add (.t 10) (iC 1)),mV 10 23]))))
def k149:KC:=(.seq (.ops [oP 4 (.mv (.c (.bool false)))])
 (.seq (.ops [oP 5 (.mv (iC 0))])
 (.seq (.seq (.ops [mV 8 0,oP 9 (.len false (.t 8)),oP 10 (.mv (iC 0))])
 (.block 0 (.loop k149_b0)))
 (.seq (.ops [mV 24 0,oP 25 (.len false (.t 24)),mV 26 1,oP 27 (.bin .eql (.t 25) (.t 26)),mV 4 27])
 .ret))))
theorem e149:Ent 149 28 [] [.t 4] k149:=ent Tryz.func149
def k153_b0:KC:=(.seq (.seq (.ops [mV 11 6,mV 12 1,oP 13 (.bin .lss (.t 11) (.t 12))])
 (.cond (.t 13) .skip (.exit 0)))
 (.seq (.block 1 (.seq (.seq (.ops [mV 16 0,mV 17 6,oP 18 (.idxS 1 (.t 16) (.t 17)),oP 19 (.load false 1 (.t 18)),mV 20 5,oP 21 (.call (fC 71) [(.t 19),(iC 0),(.t 20)]),oP 22 (.not (.t 21))])
 (.cond (.t 22) (.seq (.ops [oP 4 (.mv (.c (.bool false)))])
 .ret) .skip))
 (.seq (.ops [mV 23 0,mV 24 6,oP 25 (.idxS 1 (.t 23) (.t 24)),oP 26 (.load false 1 (.t 25)),mV 27 5,oP 28 (.bin .eql (.t 26) (.t 27))])
 (.cond (.t 28) (.ops [mV 29 5,oP 30 (.bin .add (.t 29) (iC 1)),mV 5 30]) .skip))))
 (.ops [mV 14 6,oP 15 (.bin .add (.t 14) (iC 1)),mV 6 15])))
def k153:KC:=(.seq (.ops [oP 4 (.mv (.c (.bool false)))])
 (.seq (.seq (.ops [mV 7 0,oP 8 (.len false (.t 7)),mV 9 1,oP 10 (.bin .neq (.t 8) (.t 9))])
 (.cond (.t 10) (.seq (.ops [oP 4 (.mv (.c (.bool false)))])
 .ret) .skip))
 (.seq (.ops [oP 5 (.mv (iC 0))])
 (.seq (.seq (.ops [oP 6 (.mv (iC 0))])
 (.block 0 (.loop k153_b0)))
 (.seq (.ops [oP 4 (.mv (.c (.bool true)))])
 .ret)))))
theorem e153:Ent 153 31 [] [.t 4] k153:=ent Tryz.func153
def k84_b0:KC:=(.seq (.ops [oP 9 (.bin .lss (.t 8) (.t 7))])
 (.seq (.cond (.t 9) .skip (.exit 0))
 (.seq (.block 1 (.seq (.ops [mV 10 8,mV 5 10])
 (.seq (.ops [mV 11 1,mV 12 0,mV 13 5,oP 14 (.idxS 1 (.t 12) (.t 13)),oP 15 (.load false 1 (.t 14)),oP 16 (.bin .eql (.t 11) (.t 15))])
 (.cond (.t 16) (.seq (.ops [mV 17 5,mV 4 17])
 .ret) .skip))))
 (.ops [oP 18 (.bin .add (.t 8) (iC 1)),mV 8 18]))))
def k84:KC:=(.seq (.ops [oP 4 (.mv (iC 0))])
 (.seq (.seq (.ops [mV 6 0,oP 7 (.len false (.t 6)),oP 8 (.mv (iC 0))])
 (.block 0 (.loop k84_b0)))
 (.seq (.ops [oP 4 (.mv (iC (-1)))])
 .ret)))
theorem e84:Ent 84 19 [] [.t 4] k84:=ent Tryz.func84
end
section
attribute [local irreducible] ACall PCall KL
def clOk:List Int→Int→Bool
 | [],_=>true
 | k :: r,v=>decide (0≤k∧k≤v) && clOk r (if k=v then v+1 else v)
theorem clOk_step {l:List Int} {x:Nat} (h:x<l.length) (v:Int):clOk (l.drop x) v=(decide (0≤l[x]∧l[x]≤v) && clOk (l.drop (x+1)) (if l[x]=v then v+1 else v)):=by
 rw [List.drop_eq_getElem_cons h]; rfl
theorem p149 (l:List Int) (n:Int) (hl:l.length≤1048576):Pure Tryz.prog 149 [.list (ints l),.int .i64 n] (.bool (clOk l 0 && decide ((l.length:Int)=n))):=by
 refine e149 (by simp) fun _ _=>?_
 simp only [k149,argEnv,go_sem]
 refine KL_ind k149_b0.eq_1 (fun x:Nat × Int=>[(0,.list (ints l)),(1,.int .i64 n),(5,.int .i64 x.2),(8,.list (ints l)),(9,.int .i64 l.length),(10,.int .i64 x.1)]) (fun _=>[]) (fun x=>x.1≤l.length∧clOk l 0=clOk (l.drop x.1) x.2∧0≤x.2∧x.2≤x.1) (fun x=>l.length - x.1) [0,1,5,8,9,10] (0,0) (by rfl) rfl ⟨Nat.zero_le _,rfl,by simp,by simp⟩ fun ⟨x,v⟩ ⟨hx,hc,h0,hv⟩ ih=>?_
 simp only at hx hc h0 hv
 try simp only [go_sem]
 refine ⟨fun h1=>⟨by omega,fun h2=>?_⟩,fun h1=>?_⟩
 ·rw [getD_eq h2]
  rw [clOk_step h2] at hc
  refine (p80 _ _ _).go ?_
  try simp only [go_sem]
  refine ⟨fun h3=>?_,fun h3=>⟨fun h4=>⟨by omega,by omega,?_⟩,fun h4=>⟨by omega,?_⟩⟩⟩
  ·rw [hc,decide_eq_false h3]
   exact Kv.Fin.still ⟨rfl,rfl⟩
  ·rw [decide_eq_true h3,Bool.true_and,if_pos h4] at hc
   exact ih (x+1,v+1) ⟨by show x+1≤_; omega,hc,by show 0≤v+1; omega,by show v+1≤((x+1:Nat):Int); omega⟩ (by show l.length - (x+1)<l.length - x; omega) _ _ (by rfl) rfl
  ·rw [decide_eq_true h3,Bool.true_and,if_neg h4] at hc
   exact ih (x+1,v) ⟨by show x+1≤_; omega,hc,h0,by show v≤((x+1:Nat):Int); omega⟩ (by show l.length - (x+1)<l.length - x; omega) _ _ (by rfl) rfl
 ·obtain rfl:x=l.length:=by omega
  rw [List.drop_length] at hc
  rw [hc]
  exact Kv.Fin.still ⟨by simp [clOk],rfl⟩
theorem p153 (l:List Int) (n:Int) (hl:l.length≤1048576):Pure Tryz.prog 153 [.list (ints l),.int .i64 n] (.bool (clOk l 0 && decide ((l.length:Int)=n))):=by
 refine e153 (by simp) fun _ _=>?_
 simp only [k153,argEnv,go_sem]
 refine ⟨fun h=>Kv.Fin.still ⟨by rw [decide_eq_false h,Bool.and_false],rfl⟩,fun h=>?_⟩
 subst h
 rw [decide_eq_true rfl,Bool.and_true]
 refine KL_ind k153_b0.eq_1 (fun x:Nat × Int=>[(0,.list (ints l)),(1,.int .i64 l.length),(5,.int .i64 x.2),(6,.int .i64 x.1)]) (fun _=>[]) (fun x=>x.1≤l.length∧clOk l 0=clOk (l.drop x.1) x.2∧0≤x.2∧x.2≤x.1) (fun x=>l.length - x.1) [0,1,5,6] (0,0) (by rfl) rfl ⟨Nat.zero_le _,rfl,by simp,by simp⟩ fun ⟨x,v⟩ ⟨hx,hc,h0,hv⟩ ih=>?_
 simp only at hx hc h0 hv
 try simp only [go_sem]
 refine ⟨fun h1=>⟨by omega,fun h2=>?_⟩,fun h1=>?_⟩
 ·rw [getD_eq h2]
  rw [clOk_step h2] at hc
  refine (p71 _ _ _).go ?_
  try simp only [go_sem]
  refine ⟨fun h3=>?_,fun h3=>⟨by omega,fun _=>?_⟩⟩
  ·rw [hc,decide_eq_false h3]
   exact Kv.Fin.still ⟨rfl,rfl⟩
  rw [getD_eq h2]
  refine ⟨fun h4=>⟨by omega,by omega,?_⟩,fun h4=>⟨by omega,?_⟩⟩
  ·rw [decide_eq_true h3,Bool.true_and,if_pos h4] at hc
   exact ih (x+1,v+1) ⟨by show x+1≤_; omega,hc,by show 0≤v+1; omega,by show v+1≤((x+1:Nat):Int); omega⟩ (by show l.length - (x+1)<l.length - x; omega) _ _ (by rfl) rfl
  ·rw [decide_eq_true h3,Bool.true_and,if_neg h4] at hc
   exact ih (x+1,v) ⟨by show x+1≤_; omega,hc,h0,by show v≤((x+1:Nat):Int); omega⟩ (by show l.length - (x+1)<l.length - x; omega) _ _ (by rfl) rfl
 ·obtain rfl:x=l.length:=by omega
  rw [List.drop_length] at hc
  rw [hc]
  exact Kv.Fin.still ⟨by simp [clOk],rfl⟩
theorem p84 (l:List Int) (k:Int) (hl:l.length≤1048576):Pure Tryz.prog 84 [.list (ints l),.int .i64 k] (.int .i64 (idx (fun y=>decide (k=y)) l)):=by
 refine e84 (by simp) fun _ _=>?_
 simp only [k84,argEnv,go_sem]
 refine KL_ind k84_b0.eq_1 (fun x:Nat=>[(0,.list (ints l)),(1,.int .i64 k),(7,.int .i64 l.length),(8,.int .i64 x)]) (fun _=>[]) (fun x=>x≤l.length∧(l.take x).any (fun y=>decide (k=y))=false) (fun x=>l.length - x) [0,1,7,8] 0 (by rfl) rfl ⟨Nat.zero_le _,by simp⟩ fun x ⟨hx,hall⟩ ih=>?_
 try simp only [go_sem]
 refine ⟨fun h1=>⟨by omega,fun h2=>?_⟩,fun h1=>?_⟩
 ·rw [getD_eq h2]
  refine ⟨fun h3=>?_,fun h3=>⟨by omega,?_⟩⟩
  ·exact Kv.Fin.still ⟨by rw [idx_some h2 hall (by simpa using h3)],rfl⟩
  ·refine ih (x+1) ⟨by omega,?_⟩ (by omega) _ _ (by rfl) rfl
   rw [any_take_succ _ h2,hall,decide_eq_false h3]; rfl
 ·obtain rfl:x=l.length:=by omega
  rw [List.take_length] at hall
  exact Kv.Fin.still ⟨by rw [idx_none hall],rfl⟩
theorem idx_of {l:List Int} {p:Nat} (h:p<l.length):∃ q:Nat,idx (fun y=>decide (l.getD p 0=y)) l=q∧q<l.length∧l.getD q 0=l.getD p 0:=by
 have ha:l.any (fun y=>decide (l.getD p 0=y))=true:=by
  rw [List.any_eq_true]
  exact ⟨l[p],List.getElem_mem h,by rw [getD_eq h]; simp⟩
 obtain ⟨q,hq,h1,h2⟩:=any_split ha
 refine ⟨q,idx_some hq h1 h2,hq,?_⟩
 rw [getD_eq hq]
 exact (of_decide_eq_true h2).symm
theorem lcode_maps {a:List (List Int)} (h6:∀ r∈a,r.length=6) (h:lcode a []=0):∃ (fs:List (List Nat)) (n:Nat),a=fs.map mp∧(∀ f∈fs,Ok f n)∧1≤fs.length∧fs.length≤6∧(a.getD 0 []).getD 0 0=n∧1≤n∧n≤5:=by
 unfold lcode at h
 rw [List.append_nil] at h
 split at h
 ·omega
 rename_i h1
 split at h
 ·omega
 rename_i h2
 split at h
 ·omega
 rename_i h3
 simp only [Bool.not_eq_false,List.all_eq_true,decide_eq_true_eq] at h1 h3
 have h2':1≤a.length∧a.length≤6:=by omega
 have h0:0<a.length:=by omega
 obtain ⟨f0,n,hf0,e0⟩:=isM_ok (h6 _ (List.getElem_mem h0)) (h1 _ (List.getElem_mem h0))
 have hn:(a.getD 0 []).getD 0 0=n:=by rw [getD_eq h0,e0,mp_get0,hf0.len]
 have key:∀ r∈a,r=mp (um r)∧Ok (um r) n:=fun r hr=>by
  obtain ⟨f,n',hf,e⟩:=isM_ok (h6 r hr) (h1 r hr)
  have h4:=h3 r hr
  rw [hn,e,mp_get0,hf.len] at h4
  obtain rfl:n'=n:=by omega
  rw [e,um_mp]
  exact ⟨rfl,hf⟩
 refine ⟨a.map um,n,?_,?_,by simpa using h2'.1,by simpa using h2'.2,hn,hf0.pos,hf0.le⟩
 ·rw [List.map_map]
  conv=>lhs; rw [← List.map_id a]
  exact List.map_congr_left fun r hr=>by simpa using (key r hr).1
 ·intro f hf
  obtain ⟨r,hr,rfl⟩:=List.mem_map.1 hf
  exact (key r hr).2
theorem map_getD {fs:List (List Nat)} {x:Nat} (h:x<fs.length):(fs.map mp).getD x []=mp fs[x]:=by simp [List.getD_eq_getElem?_getD,h]
end
end
section
section
attribute [local irreducible] ACall PCall KL
def seqA (k:Int) (n:Nat):List (List Int):=(List.range n).map fun i=>seqI (k+6 * (i:Nat)) 6
@[simp] theorem seqA_length (k:Int) (n:Nat):(seqA k n).length=n:=by simp [seqA]
end
end
end
end Go.Proofs.YtcfmmmloeaggmaaGreat
section
section
namespace Go.Proofs.YtcfmmmloeaggmaaGreat
open Go.Kv
set_option linter.unusedVariables false
set_option linter.unusedSimpArgs false
attribute [local irreducible] ACall PCall KL
def szR:List (List Int)→Int→Int
 | [],k=>k
 | r :: t,k=>if k - r.length<0 then -1 else szR t (k - r.length)
def szT (t:List (List Int)) (k:Int):Int:=if k - t.length<0 then -1 else szR t (k - t.length)
theorem rows_getD_len {t:List (List Int)} {x:Nat} (h:x<t.length):t.getD x []∈t:=by
 rw [List.getD_eq_getElem?_getD,List.getElem?_eq_getElem h]; exact List.getElem_mem h
theorem Imm.refr {σ:Heap} {id ver n:Nat} {e:TypeId} {l:List (List Int)} (h:σ[id]? = some (.arr ver e 1 (rows l))) (hn:n=l.length):Imm σ (.ref id ver 0 n) (.list (rows l)):=by
 subst hn
 exact .ref id ver 0 l.length e 1 (rows l) (rows l) h (by simp [rows_length]) (rows_length l)
  (fun i x d hx hd=>by simp only [Nat.zero_add,hd,Option.some.injEq] at hx; subst hx; obtain ⟨y,_,rfl⟩:=rows_get hd; exact ⟨rfl,rfl⟩)
  (fun i x d j c c' hx hd hc hc'=>by
   simp only [Nat.zero_add,hd,Option.some.injEq] at hx; subst hx
   obtain ⟨y,_,rfl⟩:=rows_get hd
   rw [hc] at hc'; cases hc'
   simp only [PV.cs] at hc
   have:=List.mem_of_getElem? hc
   simp at this; subst this
   exact .listi _ _)
end Go.Proofs.YtcfmmmloeaggmaaGreat
end
section
namespace Go.Kv
set_option linter.unusedVariables false
set_option linter.unusedSimpArgs false
def refs (rs:List (Nat × Nat)) (t:List (List Int)):List PV:=List.zipWith (fun r l=>PV.ref r.1 r.2 0 l.length) rs t
structure TabAt (e2 e1:TypeId) (σ:Heap) (id ver:Nat) (rs:List (Nat × Nat)) (t:List (List Int)):Prop where
 out:σ[id]? = some (.arr ver e2 1 (refs rs t))
 len:rs.length=t.length
 row:∀ (i:Nat) (r:Nat × Nat) (l:List Int),rs[i]? = some r→t[i]? = some l→σ[r.1]? = some (.arr r.2 e1 1 (ints l))
 nd:(rs.map Prod.fst).Nodup
 ni:id ∉ rs.map Prod.fst
theorem refs_length {rs:List (Nat × Nat)} {t:List (List Int)} (h:rs.length=t.length):(refs rs t).length=t.length:=by simp [refs,h]
theorem refs_get {rs:List (Nat × Nat)} {t:List (List Int)} {i:Nat} {x:PV} (h:(refs rs t)[i]? = some x):∃ r l,rs[i]? = some r∧t[i]? = some l∧x = .ref r.1 r.2 0 l.length:=by
 simp only [refs,List.getElem?_zipWith] at h
 cases hr:rs[i]? with
 | none=>simp [hr] at h
 | some r =>
  cases hl:t[i]? with
  | none=>simp [hr,hl] at h
  | some l=>simp [hr,hl] at h; exact ⟨r,l,rfl,rfl,h.symm⟩
variable {e2 e1:TypeId} {σ:Heap} {id ver:Nat} {rs:List (Nat × Nat)} {t:List (List Int)}
theorem TabAt.imm (h:TabAt e2 e1 σ id ver rs t) {n:Nat} (hn:n=t.length):Imm σ (.ref id ver 0 n) (.list (rows t)):=by
 subst hn
 refine .ref id ver 0 t.length e2 1 (refs rs t) (rows t) h.out (by rw [refs_length h.len]; omega) (rows_length t) (fun i x d hx hd=>?_) (fun i x d j c c' hx hd hc hc'=>?_)
 ·obtain ⟨r,l,hr,hl,rfl⟩:=refs_get hx
  obtain ⟨y,_,rfl⟩:=rows_get hd
  exact ⟨rfl,rfl⟩
 ·rw [Nat.zero_add] at hx
  obtain ⟨r,l,hr,hl,rfl⟩:=refs_get hx
  obtain ⟨y,hy,rfl⟩:=rows_get hd
  rw [hl] at hy; cases hy
  have h1:=List.mem_of_getElem? hc
  have h2:=List.mem_of_getElem? hc'
  simp [PV.cs] at h1 h2; subst h1; subst h2
  exact .refi (h.row i r l hr hl)
theorem TabAt.append (h:TabAt e2 e1 σ id ver rs t) (τ:Heap):TabAt e2 e1 (σ ++ τ) id ver rs t where
 out:=by rw [List.getElem?_append_left (List.getElem?_eq_some_iff.1 h.out).1]; exact h.out
 len:=h.len
 row:=fun i r l hr hl=>by
  have:=h.row i r l hr hl
  rw [List.getElem?_append_left (List.getElem?_eq_some_iff.1 this).1]; exact this
 nd:=h.nd
 ni:=h.ni
def shR (n:Nat) (rs:List (Nat × Nat)):List (Nat × Nat):=rs.map fun r=>(r.1+n,r.2)
theorem TabAt.shift (h:TabAt e2 e1 σ id ver rs t) (τ:Heap):TabAt e2 e1 (τ ++ σ.map (AObj.ren (sh τ.length))) (id + τ.length) ver (shR τ.length rs) t where
 out:=by
  rw [List.getElem?_append_right (by omega),Nat.add_sub_cancel,List.getElem?_map,h.out]
  simp only [Option.map_some,ren_arr,Option.some.injEq,AObj.arr.injEq,true_and]
  simp only [refs,shR,List.map_zipWith,List.zipWith_map_left,ren_ref,sh_def]
 len:=by simp [shR,h.len]
 row:=fun i r l hr hl=>by
  simp only [shR,List.getElem?_map,Option.map_eq_some_iff] at hr
  obtain ⟨q,hq,rfl⟩:=hr
  rw [List.getElem?_append_right (by omega),Nat.add_sub_cancel,List.getElem?_map,h.row i q l hq hl]
  simp only [Option.map_some,ren_arr,ren_ints]
 nd:=by
  have e:(shR τ.length rs).map Prod.fst=(rs.map Prod.fst).map (· + τ.length):=by simp [shR,List.map_map,Function.comp_def]
  rw [e]
  exact List.Pairwise.map _ (fun a b (hab:a≠b)=>show a + τ.length≠b + τ.length by omega) h.nd
 ni:=by
  have e:(shR τ.length rs).map Prod.fst=(rs.map Prod.fst).map (· + τ.length):=by simp [shR,List.map_map,Function.comp_def]
  rw [e]
  intro hm
  obtain ⟨x,hx,hxe⟩:=List.mem_map.1 hm
  have:x=id:=by omega
  exact h.ni (this ▸ hx)
theorem TabAt.keep (h:TabAt e2 e1 σ id ver rs t) {σ':Heap} (h1:σ'[id]? = σ[id]?) (h2:∀ r∈rs,σ'[r.1]? = σ[r.1]?):TabAt e2 e1 σ' id ver rs t where
 out:=h1.trans h.out
 len:=h.len
 row:=fun i r l hr hl=>(h2 r (List.mem_of_getElem? hr)).trans (h.row i r l hr hl)
 nd:=h.nd
 ni:=h.ni
theorem TabAt.set (h:TabAt e2 e1 σ id ver rs t) {i:Nat} {r:Nat × Nat} (hr:rs[i]? = some r) {l m:List Int} (hl:t[i]? = some l) (hm:m.length=l.length):TabAt e2 e1 (σ.set r.1 (.arr r.2 e1 1 (ints m))) id ver rs (t.set i m):=by
 have hrm:r.1∈rs.map Prod.fst:=List.mem_map.2 ⟨r,List.mem_of_getElem? hr,rfl⟩
 have hit:=(List.getElem?_eq_some_iff.1 hl).1
 refine ⟨?_,by rw [List.length_set]; exact h.len,fun j q n hq hn=>?_,h.nd,h.ni⟩
 ·rw [List.getElem?_set_ne (fun e:r.1=id=>h.ni (by rw [← e]; exact hrm)),h.out]
  congr 2
  apply List.ext_getElem?
  intro j
  simp only [refs,List.getElem?_zipWith,List.getElem?_set]
  by_cases e:i=j
  ·subst e
   rw [if_pos rfl,if_pos hit,hr,hl]
   simp [hm]
  ·rw [if_neg e]
 ·by_cases e:i=j
  ·subst e
   rw [hr] at hq; cases hq
   rw [List.getElem?_set_self hit] at hn; cases hn
   rw [List.getElem?_set_self (List.getElem?_eq_some_iff.1 (h.row i r l hr hl)).1]
  ·rw [List.getElem?_set_ne e] at hn
   have hne:r.1≠q.1:=fun e2=>by
    have hi:=(List.getElem?_eq_some_iff.1 hr)
    have hj:=(List.getElem?_eq_some_iff.1 hq)
    have:=(List.getElem_inj (h₀:=by simpa using hi.1) (h₁:=by simpa using hj.1) h.nd).1 (by simp [hi.2,hj.2,e2])
    exact e this
   rw [List.getElem?_set_ne hne]
   exact h.row j q n hq hn
theorem TabAt.lt (h:TabAt e2 e1 σ id ver rs t):id < σ.length∧∀ r∈rs,r.1 < σ.length:=by
 refine ⟨(List.getElem?_eq_some_iff.1 h.out).1,fun r hr=>?_⟩
 obtain ⟨i,hi⟩:=List.getElem?_of_mem hr
 have hlt:=(List.getElem?_eq_some_iff.1 hi).1
 exact (List.getElem?_eq_some_iff.1 (h.row i r (t[i]'(h.len ▸ hlt)) hi (List.getElem?_eq_getElem (h.len ▸ hlt)))).1
def NewT (P:Program) (f:FuncId) (args:List PV) (e2 e1:TypeId) (T:List (List Int)) (r:Int):Prop :=
 ACall P f args [] fun v s=>∃ id ver rs,v = .tup [.ref id ver 0 T.length,.int .i64 r]∧TabAt e2 e1 s id ver rs T∧∀ o∈s,o.free
theorem shR_ge {n:Nat} {rs:List (Nat × Nat)}:∀ r∈shR n rs,n≤r.1:=fun r hr=>by
 simp only [shR,List.mem_map] at hr
 obtain ⟨q,_,rfl⟩:=hr
 simp
theorem NewT.call {P:Program} {f:FuncId} {args:List PV} {T:List (List Int)} {r:Int} (h:NewT P f args e2 e1 T r) {σ:Heap} {K:PV→Heap→Prop} (ha:∀ a∈args,PV.upto 0 a)
  (hk:∀ (id ver:Nat) (rs:List (Nat × Nat)) (s:Heap),TabAt e2 e1 (σ ++ s) id ver rs T→σ.length≤id→(∀ r∈rs,σ.length≤r.1)→K (.tup [.ref id ver 0 T.length,.int .i64 r]) (σ ++ s)):ACall P f args σ K:=by
 refine ACall.frame h ha fun v s ⟨id,ver,rs,hv,hT,_⟩=>?_
 subst hv
 have:=hk _ _ _ _ (hT.shift σ) (by omega) shR_ge
 simpa only [ren_tup,ren_ref,ren_int,List.map_cons,List.map_nil,sh_def] using this
theorem NewT.lend {P:Program} {f:FuncId} {args args':List PV} {T:List (List Int)} {r:Int} (h:NewT P f args' e2 e1 T r) {σ:Heap} {K:PV→Heap→Prop} (ha:ImmL σ args args')
  (hk:∀ (id ver:Nat) (rs:List (Nat × Nat)) (s:Heap),TabAt e2 e1 (σ ++ s) id ver rs T→σ.length≤id→(∀ r∈rs,σ.length≤r.1)→K (.tup [.ref id ver 0 T.length,.int .i64 r]) (σ ++ s)):ACall P f args σ K:=by
 refine ACall.lend h ha fun v s ⟨id,ver,rs,hv,hT,hf⟩=>?_
 subst hv
 refine ⟨⟨free_tup fun c hc=>?_,hf⟩,?_⟩
 ·simp only [List.mem_cons,List.not_mem_nil,or_false] at hc
  rcases hc with rfl | rfl
  ·exact free_ref _ _ _ _
  ·exact (Plain.int _ _).fr
 ·have:=hk _ _ _ _ (hT.shift σ) (by omega) shR_ge
  simpa only [ren_tup,ren_ref,ren_int,List.map_cons,List.map_nil,sh_def] using this
end Go.Kv
end
section
namespace Go.Proofs.YtcfmmmloeaggmaaGreat
open Go.Kv
set_option linter.unusedVariables false
set_option linter.unusedSimpArgs false
attribute [local irreducible] ACall PCall KL
inductive OwnT (e2 e1:TypeId) (σ:Heap) (lo hi:Nat):PV→List (List Int)→Prop
 | nil:OwnT e2 e1 σ lo hi .nils []
 | tab (id ver:Nat) (rs:List Rw) (t:List (List Int)) (h:TabG e2 e1 σ id ver rs t) (h1:lo≤id∧id<hi) (h2:∀ r∈rs,r.nil=false→lo≤r.id∧r.id<hi):OwnT e2 e1 σ lo hi (.ref id ver 0 t.length) t
inductive OwnI (e:TypeId) (σ:Heap) (lo hi:Nat):PV→List Int→Prop
 | nil:OwnI e σ lo hi .nils []
 | own (id ver:Nat) (pre l post:List Int) (h:σ[id]? = some (.arr ver e 1 (ints (pre ++ l ++ post)))) (h1:lo≤id∧id<hi):OwnI e σ lo hi (.ref id ver pre.length l.length) l
variable {e2 e1 e:TypeId} {σ:Heap} {lo hi:Nat} {x:PV} {t:List (List Int)} {l:List Int}
theorem OwnT.imm (h:OwnT e2 e1 σ lo hi x t):Imm σ x (.list (rows t)):=by
 cases h with
 | nil=>exact .nils
 | tab id ver rs t h _ _=>exact h.imm rfl
theorem OwnI.imm (h:OwnI e σ lo hi x l):Imm σ x (.list (ints l)):=by
 cases h with
 | nil=>exact .nils
 | own id ver pre l post h _=>exact .refp h rfl rfl
theorem OwnT.keep (h:OwnT e2 e1 σ lo hi x t) {σ':Heap} (hk:∀ j,lo≤j→j<hi→σ'[j]? = σ[j]?):OwnT e2 e1 σ' lo hi x t:=by
 cases h with
 | nil=>exact .nil
 | tab id ver rs t h h1 h2=>exact .tab id ver rs t (h.keep (hk id h1.1 h1.2) fun r hr hn=>hk _ (h2 r hr hn).1 (h2 r hr hn).2) h1 h2
theorem OwnI.keep (h:OwnI e σ lo hi x l) {σ':Heap} (hk:∀ j,lo≤j→j<hi→σ'[j]? = σ[j]?):OwnI e σ' lo hi x l:=by
 cases h with
 | nil=>exact .nil
 | own id ver pre l post h h1=>exact .own id ver pre l post ((hk id h1.1 h1.2).trans h) h1
theorem OwnT.shift (h:OwnT e2 e1 σ lo hi x t) (τ:Heap):OwnT e2 e1 (τ ++ σ.map (AObj.ren (Kv.sh τ.length))) (lo + τ.length) (hi + τ.length) (x.ren (Kv.sh τ.length)) t:=by
 cases h with
 | nil=>simp only [ren_nils]; exact .nil
 | tab id ver rs t h h1 h2 =>
  simp only [ren_ref,sh_def]
  refine .tab _ _ _ t (h.shift τ) (by omega) fun r hr hn=>?_
  obtain ⟨q,hq,rfl⟩:=List.mem_map.1 hr
  have:=h2 q hq hn
  simp only [Rw.sh]; omega
theorem OwnI.shift (h:OwnI e σ lo hi x l) (τ:Heap):OwnI e (τ ++ σ.map (AObj.ren (Kv.sh τ.length))) (lo + τ.length) (hi + τ.length) (x.ren (Kv.sh τ.length)) l:=by
 cases h with
 | nil=>simp only [ren_nils]; exact .nil
 | own id ver pre l post h h1 =>
  simp only [ren_ref,sh_def]
  refine .own _ ver pre l post ?_ (by omega)
  rw [List.getElem?_append_right (by omega),Nat.add_sub_cancel,List.getElem?_map,h]
  simp only [Option.map_some,ren_arr,ren_ints]
theorem OwnT.fr (h:OwnT e2 e1 σ lo hi x t):x.free:=by
 cases h with
 | nil=>exact Plain.nils.fr
 | tab id ver rs t h _ _=>exact free_ref _ _ _ _
theorem OwnI.fr (h:OwnI e σ lo hi x l):x.free:=by
 cases h with
 | nil=>exact Plain.nils.fr
 | own id ver pre l post h _=>exact free_ref _ _ _ _
def NewTO (P:Program) (f:FuncId) (args:List PV) (e2 e1:TypeId) (T:List (List Int)) (r:Int):Prop :=
 ACall P f args [] fun v s=>∃ x,v = .tup [x,.int .i64 r]∧OwnT e2 e1 s 0 s.length x T∧Free s
def NewIO (P:Program) (f:FuncId) (args:List PV) (e:TypeId) (l:List Int) (r:Int):Prop :=
 ACall P f args [] fun v s=>∃ x,v = .tup [x,.int .i64 r]∧OwnI e s 0 s.length x l∧Free s
theorem NewTN.own {P:Program} {f:FuncId} {args:List PV} {T:List (List Int)} {r:Int} (h:NewTN P f args e2 e1 T r):NewTO P f args e2 e1 T r :=
 ACall.mono h fun v s ⟨x,hv,hT,hf⟩=>⟨x,hv,(by
  cases hT with
  | nil=>exact .nil
  | tab id ver rs _ h=>exact .tab id ver rs _ h ⟨Nat.zero_le _,h.lt.1⟩ fun r hr hn=>⟨Nat.zero_le _,h.lt.2 r hr hn⟩),hf⟩
theorem NewI.own {P:Program} {f:FuncId} {args:List PV} {l:List Int} {r:Int} (h:NewI P f args e l r):NewIO P f args e l r :=
 ACall.mono h fun v s ⟨ver,pre,post,hv,hs⟩=>⟨_,hv,hs ▸ .own 0 ver pre l post rfl ⟨Nat.zero_le _,by simp⟩,hs ▸ .ints _ _ _ _⟩
theorem NewTO.frozen {P:Program} {f:FuncId} {args:List PV} {T:List (List Int)} {r:Int} (h:NewTO P f args e2 e1 T r):Pure P f args (.tup [.list (rows T),.int .i64 r]) :=
 ACall.ret h fun v s ⟨x,hv,hT,_⟩=>by
  subst hv
  exact Fin.freeze (Imm.tupL (.cons hT.imm (.cons (.int _ _ _) (.nil _)))) ⟨rfl,rfl⟩
theorem NewIO.frozen {P:Program} {f:FuncId} {args:List PV} {l:List Int} {r:Int} (h:NewIO P f args e l r):Pure P f args (.tup [.list (ints l),.int .i64 r]) :=
 ACall.ret h fun v s ⟨x,hv,hT,_⟩=>by
  subst hv
  exact Fin.freeze (Imm.tupL (.cons hT.imm (.cons (.int _ _ _) (.nil _)))) ⟨rfl,rfl⟩
theorem NewTO.lend {P:Program} {f:FuncId} {args args':List PV} {T:List (List Int)} {r:Int} (h:NewTO P f args' e2 e1 T r) {σ:Heap} {K:PV→Heap→Prop} (ha:ImmL σ args args')
  (hk:∀ (x:PV) (σ':Heap),OwnT e2 e1 σ' σ.length σ'.length x T→(∀ j,j < σ.length→σ'[j]? = σ[j]?)→σ.length≤σ'.length→K (.tup [x,.int .i64 r]) σ'):ACall P f args σ K:=by
 refine ACall.lend h ha fun v s ⟨x,hv,hT,hf⟩=>?_
 subst hv
 refine ⟨⟨free_tup fun c hc=>?_,hf⟩,?_⟩
 ·simp only [List.mem_cons,List.not_mem_nil,or_false] at hc
  rcases hc with rfl | rfl
  ·exact hT.fr
  ·exact (Plain.int _ _).fr
 ·have h1:=hT.shift σ
  have e:(σ ++ s.map (AObj.ren (Kv.sh σ.length))).length=s.length + σ.length:=by simp; omega
  rw [Nat.zero_add,← e] at h1
  have:=hk _ _ h1 (fun j hj=>List.getElem?_append_left hj) (by simp)
  simpa only [ren_tup,ren_int,List.map_cons,List.map_nil] using this
theorem NewIO.lend {P:Program} {f:FuncId} {args args':List PV} {l:List Int} {r:Int} (h:NewIO P f args' e l r) {σ:Heap} {K:PV→Heap→Prop} (ha:ImmL σ args args')
  (hk:∀ (x:PV) (σ':Heap),OwnI e σ' σ.length σ'.length x l→(∀ j,j < σ.length→σ'[j]? = σ[j]?)→σ.length≤σ'.length→K (.tup [x,.int .i64 r]) σ'):ACall P f args σ K:=by
 refine ACall.lend h ha fun v s ⟨x,hv,hT,hf⟩=>?_
 subst hv
 refine ⟨⟨free_tup fun c hc=>?_,hf⟩,?_⟩
 ·simp only [List.mem_cons,List.not_mem_nil,or_false] at hc
  rcases hc with rfl | rfl
  ·exact hT.fr
  ·exact (Plain.int _ _).fr
 ·have h1:=hT.shift σ
  have e:(σ ++ s.map (AObj.ren (Kv.sh σ.length))).length=s.length + σ.length:=by simp; omega
  rw [Nat.zero_add,← e] at h1
  have:=hk _ _ h1 (fun j hj=>List.getElem?_append_left hj) (by simp)
  simpa only [ren_tup,ren_int,List.map_cons,List.map_nil] using this
end Go.Proofs.YtcfmmmloeaggmaaGreat
end
section
namespace Go.Proofs.YtcfmmmloeaggmaaGreat
open Go.Kv
set_option linter.unusedVariables false
set_option linter.unusedSimpArgs false
attribute [local irreducible] ACall PCall KL
inductive OwnA (e:TypeId) (σ:Heap) (lo hi:Nat):PV→List (List Int)→Prop
 | nil:OwnA e σ lo hi .nils []
 | own (id ver:Nat) (l post:List (List Int)) (h:σ[id]? = some (.arr ver e 6 (aggs (l ++ post)))) (h6:∀ r∈l,r.length=6) (h1:lo≤id∧id<hi):OwnA e σ lo hi (.ref id ver 0 l.length) l
variable {e:TypeId} {σ:Heap} {lo hi:Nat} {x:PV} {l:List (List Int)}
theorem Imm.refap {σ:Heap} {id ver n:Nat} {e:TypeId} {l post:List (List Int)} (h:σ[id]? = some (.arr ver e 6 (aggs (l ++ post)))) (h6:∀ r∈l,r.length=6) (hn:n=l.length):Imm σ (.ref id ver 0 n) (.list (aggs l)):=by
 subst hn
 have hg:∀ (i:Nat) (x d:PV),(aggs (l ++ post))[i]? = some x→(aggs l)[i]? = some d→x=d:=fun i x d hx hd=>by
  have hlt:=(List.getElem?_eq_some_iff.1 hd).1
  rw [← aggs_append,List.getElem?_append_left hlt,hd] at hx
  exact (Option.some.inj hx).symm
 refine .ref id ver 0 l.length e 6 (aggs (l ++ post)) (aggs l) h (by simp [aggs_length]) (aggs_length l) (fun i x d hx hd=>?_) (fun i x d j c c' hx hd hc hc'=>?_)
 ·rw [Nat.zero_add] at hx
  obtain rfl:=hg i x d hx hd
  obtain ⟨y,hy,rfl⟩:=aggs_get hd
  exact ⟨rfl,ints_ok y⟩
 ·rw [Nat.zero_add] at hx
  obtain rfl:=hg i x d hx hd
  obtain ⟨y,_,rfl⟩:=aggs_get hd
  rw [hc] at hc'; cases hc'
  exact .refl _ ((Plain.ints y c (List.mem_of_getElem? hc)).up)
theorem OwnA.imm (h:OwnA e σ lo hi x l):Imm σ x (.list (aggs l)):=by
 cases h with
 | nil=>exact .nils
 | own id ver l post h h6 _=>exact Imm.refap h h6 rfl
theorem OwnA.keep (h:OwnA e σ lo hi x l) {σ':Heap} (hk:∀ j,lo≤j→j<hi→σ'[j]? = σ[j]?):OwnA e σ' lo hi x l:=by
 cases h with
 | nil=>exact .nil
 | own id ver l post h h6 h1=>exact .own id ver l post ((hk id h1.1 h1.2).trans h) h6 h1
theorem OwnA.shift (h:OwnA e σ lo hi x l) (τ:Heap):OwnA e (τ ++ σ.map (AObj.ren (Kv.sh τ.length))) (lo + τ.length) (hi + τ.length) (x.ren (Kv.sh τ.length)) l:=by
 cases h with
 | nil=>simp only [ren_nils]; exact .nil
 | own id ver l post h h6 h1 =>
  simp only [ren_ref,sh_def]
  refine .own _ ver l post ?_ h6 (by omega)
  rw [List.getElem?_append_right (by omega),Nat.add_sub_cancel,List.getElem?_map,h]
  simp only [Option.map_some,ren_arr,ren_aggs]
theorem OwnA.fr (h:OwnA e σ lo hi x l):x.free:=by
 cases h with
 | nil=>exact Plain.nils.fr
 | own id ver l post h _ _=>exact free_ref _ _ _ _
theorem free_aggs {v:Nat} {e:TypeId} {s:Nat} (l:List (List Int)):AObj.free (.arr v e s (aggs l)):=fun c hc=>(flat_aggs c hc).fr
theorem Free.aggs (v:Nat) (e:TypeId) (s:Nat) (l:List (List Int)):Free [.arr v e s (Kv.aggs l)]:=fun o ho=>by
 simp at ho; subst ho; exact free_aggs l
def NewAO (P:Program) (f:FuncId) (args:List PV) (e:TypeId) (l:List (List Int)) (r:Int):Prop :=
 ACall P f args [] fun v s=>∃ x,v = .tup [x,.int .i64 r]∧OwnA e s 0 s.length x l∧Free s
theorem NewAO.frozen {P:Program} {f:FuncId} {args:List PV} {r:Int} (h:NewAO P f args e l r):Pure P f args (.tup [.list (aggs l),.int .i64 r]) :=
 ACall.ret h fun v s ⟨x,hv,hT,_⟩=>by
  subst hv
  exact Fin.freeze (Imm.tupL (.cons hT.imm (.cons (.int _ _ _) (.nil _)))) ⟨rfl,rfl⟩
theorem NewAO.lend {P:Program} {f:FuncId} {args args':List PV} {r:Int} (h:NewAO P f args' e l r) {σ:Heap} {K:PV→Heap→Prop} (ha:ImmL σ args args')
  (hk:∀ (x:PV) (σ':Heap),OwnA e σ' σ.length σ'.length x l→(∀ j,j < σ.length→σ'[j]? = σ[j]?)→σ.length≤σ'.length→K (.tup [x,.int .i64 r]) σ'):ACall P f args σ K:=by
 refine ACall.lend h ha fun v s ⟨x,hv,hT,hf⟩=>?_
 subst hv
 refine ⟨⟨free_tup fun c hc=>?_,hf⟩,?_⟩
 ·simp only [List.mem_cons,List.not_mem_nil,or_false] at hc
  rcases hc with rfl | rfl
  ·exact hT.fr
  ·exact (Plain.int _ _).fr
 ·have h1:=hT.shift σ
  have e:(σ ++ s.map (AObj.ren (Kv.sh σ.length))).length=s.length + σ.length:=by simp; omega
  rw [Nat.zero_add,← e] at h1
  have:=hk _ _ h1 (fun j hj=>List.getElem?_append_left hj) (by simp)
  simpa only [ren_tup,ren_int,List.map_cons,List.map_nil] using this
end Go.Proofs.YtcfmmmloeaggmaaGreat
end
section
namespace Go.Proofs.YtcfmmmloeaggmaaGreat
open Go.Kv
set_option maxRecDepth 100000
def k83:KC:=(.seq (.ops [oP 2 (.mv (iC 0))])
 (.seq (.ops [mV 3 0,oP 4 (.call (fC 152) [(.t 3)]),oP 5 (.bin .add (.t 4) (iC 1)),mV 2 5])
 .ret))
theorem e83:Ent 83 6 [] [.t 2] k83:=ent Tryz.func83
def k88_b0:KC:=(.seq (.seq (.ops [mV 5 4,mV 6 0,oP 7 (.len false (.t 6)),oP 8 (.bin .lss (.t 5) (.t 7))])
 (.cond (.t 8) .skip (.exit 0)))
 (.seq (.block 1 (.ops [mV 11 3,mV 12 0,mV 13 4,oP 14 (.idxS 1 (.t 12) (.t 13)),oP 15 (.load false 1 (.t 14)),oP 16 (.mnmx true (.t 11) [(.t 15)]),mV 3 16]))
 (.ops [mV 9 4,oP 10 (.bin .add (.t 9) (iC 1)),mV 4 10])))
def k88:KC:=(.seq (.ops [oP 2 (.mv (iC 0))])
 (.seq (.ops [oP 3 (.mv (iC (-1)))])
 (.seq (.seq (.ops [oP 4 (.mv (iC 0))])
 (.block 0 (.loop k88_b0)))
 (.seq (.ops [mV 17 3,oP 18 (.bin .add (.t 17) (iC 1)),mV 2 18])
 .ret))))
theorem e88:Ent 88 19 [] [.t 2] k88:=ent Tryz.func88
def k108_b0:KC:=(.seq (.seq (.ops [mV 8 4,mV 9 0,oP 10 (.len false (.t 9)),oP 11 (.bin .lss (.t 8) (.t 10))])
 (.cond (.t 11) .skip (.exit 0)))
 (.seq (.block 1 (.ops [mV 14 4,mV 15 0,mV 16 4,oP 17 (.idxS 1 (.t 15) (.t 16)),oP 18 (.load false 1 (.t 17)),oP 19 (.fieldA 1 (.t 3)),oP 20 (.idxA 5 1 (.t 19) (.t 14)),⟨none,none,.store 1 (.t 20) (.t 18)⟩]))
 (.ops [mV 12 4,oP 13 (.bin .add (.t 12) (iC 1)),mV 4 13])))
def k108:KC:=(.seq (.ops [oP 2 (.alloc [.int .i64 0,.int .i64 0,.int .i64 0,.int .i64 0,.int .i64 0,.int .i64 0])])
 (.seq (.ops [mV 5 0,oP 6 (.len false (.t 5)),oP 7 (.build [.int .i64 0,.int .i64 0,.int .i64 0,.int .i64 0,.int .i64 0,.int .i64 0] [(0,1,(.t 6))]),oP 3 (.alloc [.int .i64 0,.int .i64 0,.int .i64 0,.int .i64 0,.int .i64 0,.int .i64 0]),⟨none,none,.store 6 (.t 3) (.t 7)⟩])
 (.seq (.seq (.ops [oP 4 (.mv (iC 0))])
 (.block 0 (.loop k108_b0)))
 (.seq (.ops [oP 21 (.load true 6 (.t 3)),⟨none,none,.store 6 (.t 2) (.t 21)⟩])
 .ret))))
theorem e108:Ent 108 22 [] [.cell 2 true 6] k108:=ent Tryz.func108
def k152_b0:KC:=(.seq (.seq (.ops [mV 12 4,mV 13 0,oP 14 (.len false (.t 13)),oP 15 (.bin .lss (.t 12) (.t 14))])
 (.cond (.t 15) .skip (.exit 0)))
 (.seq (.block 1 (.ops [mV 18 3,mV 19 0,mV 20 4,oP 21 (.idxS 1 (.t 19) (.t 20)),oP 22 (.load false 1 (.t 21)),oP 23 (.mnmx true (.t 18) [(.t 22)]),mV 3 23]))
 (.ops [mV 16 4,oP 17 (.bin .add (.t 16) (iC 1)),mV 4 17])))
def k152:KC:=(.seq (.ops [oP 2 (.mv (iC 0))])
 (.seq (.seq (.ops [mV 5 0,oP 6 (.len false (.t 5)),oP 7 (.bin .lss (.t 6) (iC 1))])
 (.cond (.t 7) (.ops [oP 8 (.bad),⟨none,none,.bad⟩]) .skip))
 (.seq (.ops [mV 9 0,oP 10 (.idxS 1 (.t 9) (iC 0)),oP 11 (.load false 1 (.t 10)),mV 3 11])
 (.seq (.seq (.ops [oP 4 (.mv (iC 1))])
 (.block 0 (.loop k152_b0)))
 (.seq (.ops [mV 24 3,mV 2 24])
 .ret)))))
theorem e152:Ent 152 25 [] [.t 2] k152:=ent Tryz.func152
end Go.Proofs.YtcfmmmloeaggmaaGreat
namespace Go.Proofs.YtcfmmmloeaggmaaGreat
open Go.Kv
set_option linter.unusedVariables false
set_option linter.unusedSimpArgs false
attribute [local irreducible] ACall PCall KL
def mxl (P:List Int):Int:=P.foldl max (-1)
theorem mxl_snoc (P:List Int) (k:Int):mxl (P ++ [k])=max (mxl P) k:=by simp [mxl]
theorem foldl_max_ge:∀ (P:List Int) (v:Int),v≤P.foldl max v∧∀ k∈P,k≤P.foldl max v
 | [],v=>⟨Int.le_refl _,by simp⟩
 | a :: r,v=>by
  obtain ⟨h1,h2⟩:=foldl_max_ge r (max v a)
  simp only [List.foldl_cons]
  refine ⟨by omega,fun k hk=>?_⟩
  rcases List.mem_cons.1 hk with rfl | hk
  ·omega
  ·exact h2 k hk
theorem mxl_le {P:List Int} {b:Int} (h:∀ k∈P,k≤b) (h0:-1≤b):mxl P≤b:=by
 have:∀ (P:List Int) (v:Int),v≤b→(∀ k∈P,k≤b)→P.foldl max v≤b:=fun P=>by
  induction P with
  | nil=>intro v h _; exact h
  | cons a r ih=>intro v hv hr; exact ih _ (by have:=hr a (by simp); omega) fun k hk=>hr k (by simp [hk])
 exact this P _ h0 h
theorem p152 (P:List Int) (h1:1≤P.length) (hl:P.length≤1048576) (h0:∀ k∈P,0≤k):Pure Tryz.prog 152 [.list (ints P)] (.int .i64 (mxl P)):=by
 have h01:0<P.length:=by omega
 have hP0:0≤P[0]:=h0 _ (List.getElem_mem h01)
 refine e152 (by simp) fun _ _=>?_
 simp only [k152,argEnv,go_sem]
 refine ⟨fun h=>absurd h (by omega),fun _=>⟨by omega,fun _=>?_⟩⟩
 rw [getD_eq h01]
 have e0:mxl (P.take 1)=P[0]:=by
  rw [show P.take 1 = [] ++ [P[0]] from by rw [List.take_succ_eq_append_getElem h01]; rfl,mxl_snoc]
  simp [mxl]; omega
 refine KL_ind k152_b0.eq_1 (fun x:Nat=>[(0,.list (ints P)),(3,.int .i64 (mxl (P.take x))),(4,.int .i64 x)]) (fun _=>[]) (fun x=>1≤x∧x≤P.length) (fun x=>P.length - x) [0,3,4] 1 (by simp [keep,e0]) rfl ⟨Nat.le_refl _,by omega⟩ fun x ⟨hx1,hx⟩ ih=>?_
 try simp only [go_sem]
 refine ⟨fun h3=>⟨by omega,fun h4=>?_⟩,fun h3=>?_⟩
 ·rw [getD_eq h4]
  try simp only [mnmxV,if_true]
  try simp only [go_sem]
  refine ⟨by omega,?_⟩
  refine ih (x+1) ⟨by omega,by omega⟩ (by omega) _ _ ?_ rfl
  rw [List.take_succ_eq_append_getElem h4,mxl_snoc]
  simp [keep]
 ·obtain rfl:x=P.length:=by omega
  rw [List.take_length]
  exact Kv.Fin.still ⟨rfl,rfl⟩
theorem p83 (P:List Int) (h1:1≤P.length) (hl:P.length≤1048576) (h0:∀ k∈P,0≤k) (hm:mxl P≤1048576):Pure Tryz.prog 83 [.list (ints P)] (.int .i64 (mxl P+1)):=by
 have:=(foldl_max_ge P (-1)).1
 have hm1:-1≤mxl P:=this
 refine e83 (by simp) fun _ _=>?_
 simp only [k83,argEnv,go_sem]
 refine (p152 P h1 hl h0).go ?_
 try simp only [go_sem]
 repeat' (first | refine And.intro ?_ ?_ | intro _)
 all_goals (try omega)
 exact Kv.Fin.still ⟨rfl,rfl⟩
theorem p88 (P:List Int) (hl:P.length≤1048576) (hm:mxl P≤1048576):Pure Tryz.prog 88 [.list (ints P)] (.int .i64 (mxl P+1)):=by
 have hm1:-1≤mxl P:=(foldl_max_ge P (-1)).1
 refine e88 (by simp) fun _ _=>?_
 simp only [k88,argEnv,go_sem]
 refine KL_ind k88_b0.eq_1 (fun x:Nat=>[(0,.list (ints P)),(3,.int .i64 (mxl (P.take x))),(4,.int .i64 x)]) (fun _=>[]) (fun x=>x≤P.length) (fun x=>P.length - x) [0,3,4] 0 (by rfl) rfl (Nat.zero_le _) fun x hx ih=>?_
 try simp only [go_sem]
 refine ⟨fun h3=>⟨by omega,fun h4=>?_⟩,fun h3=>?_⟩
 ·rw [getD_eq h4]
  try simp only [mnmxV,if_true]
  try simp only [go_sem]
  refine ⟨by omega,?_⟩
  refine ih (x+1) (by omega) (by omega) _ _ ?_ rfl
  rw [List.take_succ_eq_append_getElem h4,mxl_snoc]
  simp [keep]
 ·obtain rfl:x=P.length:=by omega
  rw [List.take_length]
  repeat' (first | refine And.intro ?_ ?_ | intro _)
  all_goals (try omega)
  exact Kv.Fin.still ⟨rfl,rfl⟩
theorem natD (l:List Nat) (x:Nat):(l.map fun x:Nat=>(x:Int)).getD x 0=(l.getD x 0:Int):=by
 simp only [List.getD_eq_getElem?_getD,List.getElem?_map]
 cases l[x]? <;> rfl
theorem p108 (l:List Nat) (hl:l.length≤5):Pure Tryz.prog 108 [.list (ints (l.map fun x:Nat=>(x:Int)))] (.agg (ints (mp l))):=by
 refine e108 (by simp) fun _ _=>?_
 simp only [k108,argEnv,List.length_map,go_sem]
 refine KL_ind k108_b0.eq_1 (fun x:Nat=>[(0,.list (ints (l.map fun x:Nat=>(x:Int)))),(2,.ptr 0 0),(3,.ptr 1 0),(4,.int .i64 x)]) (fun x=>[.box (ints [0,0,0,0,0,0]),.box (ints (mpN l.length (l.take x)))]) (fun x=>x≤l.length) (fun x=>l.length - x) [0,2,3,4] 0 (by rfl) (by rfl) (Nat.zero_le _) fun x hx ih=>?_
 have h6:(mpN (l.length:Int) (l.take x)).length=6:=mpN_length (by simp; omega)
 try simp only [h6,List.length_map,go_sem]
 refine ⟨fun h3=>?_,fun h3=>?_⟩
 ·refine ⟨by omega,fun h4=>⟨by omega,by omega,by omega,?_⟩⟩
  refine ih (x+1) (by omega) (by omega) _ _ (by rfl) ?_
  rw [natD,mpN_pushI (by simp; omega) (by simp; omega),List.take_succ_eq_append_getElem h4,getD_eq h4]
 ·obtain rfl:x=l.length:=by omega
  rw [List.take_length]
  exact Kv.Fin.still ⟨rfl,rfl⟩
def st (Q f:List Nat) (c x:Nat):List Nat:=(List.range x).foldl (fun s p=>s.set (Q.getD p 0) (Q.getD (f.getD p 0) 0)) (List.replicate c 0)
theorem st_zero (Q f:List Nat) (c:Nat):st Q f c 0=List.replicate c 0:=rfl
theorem st_succ (Q f:List Nat) (c x:Nat):st Q f c (x+1)=(st Q f c x).set (Q.getD x 0) (Q.getD (f.getD x 0) 0):=by simp [st,List.range_succ]
@[simp] theorem st_length (Q f:List Nat) (c:Nat):∀ x,(st Q f c x).length=c
 | 0=>by simp [st_zero]
 | x+1=>by rw [st_succ,List.length_set,st_length Q f c x]
def lcl (Q:List Nat) (c:Nat) (fs:List (List Nat)):List (List Int):=fs.map fun f=>mp (st Q f c Q.length)
@[simp] theorem lcl_length (Q:List Nat) (c:Nat) (fs:List (List Nat)):(lcl Q c fs).length=fs.length:=by simp [lcl]
end Go.Proofs.YtcfmmmloeaggmaaGreat
end
section
namespace Go.Proofs.YtcfmmmloeaggmaaGreat
open Go.Kv
set_option maxRecDepth 100000
def k106:KC:=(.seq (.ops [oP 2 (.mv (.c (.bool false)))])
 (.seq (.ops [mV 4 0,oP 5 (.len false (.t 4)),oP 3 (.alloc [.int .i64 0]),⟨none,none,.store 1 (.t 3) (.t 5)⟩])
 (.seq (.ops [oP 6 (.load false 1 (.t 3)),oP 7 (.call (fC 80) [(.t 6),(iC 1),(iC 40)]),mV 8 7,⟨(some 9),some (8,true),.mv (.t 0)⟩,⟨(some 10),some (8,true),.mkfn (.func 170) [] [(.t 3)]⟩,⟨(some 11),some (8,true),.call (fC 94) [(.t 9),(.t 10)]⟩,⟨(some 12),some (8,true),.not (.t 11)⟩,oP 13 (.pick (.t 8) (.t 12) (.c (.bool false))),mV 2 13])
 .ret)))
theorem e106:Ent 106 14 [] [.t 2] k106:=ent Tryz.func106
def k94:KC:=(.seq (.ops [oP 4 (.mv (.c (.bool false)))])
 (.seq (.ops [mV 5 0,mV 6 1,oP 7 (.call (fC 161) [(.t 5),(.t 6)]),oP 8 (.bin .geq (.t 7) (iC 0)),mV 4 8])
 .ret))
theorem e94:Ent 94 9 [] [.t 4] k94:=ent Tryz.func94
def k170:KC:=(.seq (.ops [oP 3 (.mv (.c (.bool false)))])
 (.seq (.ops [mV 4 0,oP 5 (.len false (.t 4)),oP 6 (.load false 1 (.t 1)),oP 7 (.bin .neq (.t 5) (.t 6)),mV 8 7,⟨(some 9),some (8,false),.mv (.t 0)⟩,⟨(some 10),some (8,false),.mkfn (.func 171) [] [(.t 1)]⟩,⟨(some 11),some (8,false),.call (fC 78) [(.t 9),(.t 10)]⟩,oP 12 (.pick (.t 8) (.c (.bool true)) (.t 11)),mV 3 12])
 .ret))
theorem e170:Ent 170 13 [] [.t 3] k170:=ent Tryz.func170
def k78:KC:=(.seq (.ops [oP 4 (.mv (.c (.bool false)))])
 (.seq (.ops [mV 5 0,mV 6 1,oP 7 (.call (fC 144) [(.t 5),(.t 6)]),oP 8 (.bin .geq (.t 7) (iC 0)),mV 4 8])
 .ret))
theorem e78:Ent 78 9 [] [.t 4] k78:=ent Tryz.func78
def k171:KC:=(.seq (.ops [oP 3 (.mv (.c (.bool false)))])
 (.seq (.ops [mV 4 0,oP 5 (.load false 1 (.t 1)),oP 6 (.bin .sub (.t 5) (iC 1)),oP 7 (.call (fC 80) [(.t 4),(iC 0),(.t 6)]),oP 8 (.not (.t 7)),mV 3 8])
 .ret))
theorem e171:Ent 171 9 [] [.t 3] k171:=ent Tryz.func171
def k144_b0:KC:=(.seq (.ops [oP 9 (.bin .lss (.t 8) (.t 7))])
 (.seq (.cond (.t 9) .skip (.exit 0))
 (.seq (.block 1 (.seq (.ops [mV 10 8,mV 5 10])
 (.seq (.ops [mV 11 1,mV 12 0,mV 13 5,oP 14 (.idxS 1 (.t 12) (.t 13)),oP 15 (.load false 1 (.t 14)),oP 16 (.call (.t 11) [(.t 15)])])
 (.cond (.t 16) (.seq (.ops [mV 17 5,mV 4 17])
 .ret) .skip))))
 (.ops [oP 18 (.bin .add (.t 8) (iC 1)),mV 8 18]))))
def k144:KC:=(.seq (.ops [oP 4 (.mv (iC 0))])
 (.seq (.seq (.ops [mV 6 0,oP 7 (.len false (.t 6)),oP 8 (.mv (iC 0))])
 (.block 0 (.loop k144_b0)))
 (.seq (.ops [oP 4 (.mv (iC (-1)))])
 .ret)))
theorem e144:Ent 144 19 [] [.t 4] k144:=ent Tryz.func144
def k161_b0:KC:=(.seq (.ops [oP 9 (.bin .lss (.t 8) (.t 7))])
 (.seq (.cond (.t 9) .skip (.exit 0))
 (.seq (.block 1 (.seq (.ops [mV 10 8,mV 5 10])
 (.seq (.ops [mV 11 1,mV 12 0,mV 13 5,oP 14 (.idxS 1 (.t 12) (.t 13)),oP 15 (.load false 1 (.t 14)),oP 16 (.call (.t 11) [(.t 15)])])
 (.cond (.t 16) (.seq (.ops [mV 17 5,mV 4 17])
 .ret) .skip))))
 (.ops [oP 18 (.bin .add (.t 8) (iC 1)),mV 8 18]))))
def k161:KC:=(.seq (.ops [oP 4 (.mv (iC 0))])
 (.seq (.seq (.ops [mV 6 0,oP 7 (.len false (.t 6)),oP 8 (.mv (iC 0))])
 (.block 0 (.loop k161_b0)))
 (.seq (.ops [oP 4 (.mv (iC (-1)))])
 .ret)))
theorem e161:Ent 161 19 [] [.t 4] k161:=ent Tryz.func161
end Go.Proofs.YtcfmmmloeaggmaaGreat
namespace Go.Proofs.YtcfmmmloeaggmaaGreat
open Go.Kv
set_option linter.unusedVariables false
set_option linter.unusedSimpArgs false
attribute [local irreducible] ACall PCall KL
def rowOk (n:Nat) (r:List Int):Bool:=decide (r.length=n) && r.all fun x=>decide (0≤x∧x≤(n:Int) - 1)
def isTab (t:List (List Int)):Bool:=decide (1≤t.length∧t.length≤40) && t.all (rowOk t.length)
theorem Imm.boxi {σ:Heap} {id:Nat} {n:Int} (h:σ[id]? = some (.box [.int .i64 n])):Imm σ (.ptr id 0) (.fptr [.int .i64 n] 0):=.ptr id 0 [.int .i64 n] [.int .i64 n] h rfl rfl (fun i c d h1 h2=>by
 rw [h1] at h2; cases h2
 have:=List.mem_of_getElem? h1
 simp at this; subst this
 exact .int _ _ _)
theorem up_fi (n:Int):∀ c∈[PV.fptr [.int .i64 n] 0],PV.upto 0 c:=up1 (upto_fptr 0 0 fun c hc=>by simp at hc; subst hc; exact .int _ _)
theorem p144 (l:List Int) (hl:l.length≤4294967296) (fid:FuncId) (caps:List PV) (hc:∀ c∈caps,PV.upto 0 c) (p:Int→Bool) (hp:∀ x∈l,Pure Tryz.prog fid (.int .i64 x :: caps) (.bool (p x))) :
  Pure Tryz.prog 144 [.list (ints l),.fn (.func fid) [] caps] (.int .i64 (idx p l)):=by
 refine e144 (by simp) fun _ _=>?_
 simp only [k144,argEnv,go_sem,↓reduceIte,Nat.reduceEqDiff,Nat.reduceAdd,reduceCtorEq]
 refine KL_ind k144_b0.eq_1 (fun x:Nat=>[(8,.int .i64 x),(7,.int .i64 l.length),(0,.list (ints l)),(1,.fn (.func fid) [] caps)]) (fun _=>[]) (fun x=>x≤l.length∧(l.take x).any p=false) (fun x=>l.length - x) [8,7,0,1] 0 rfl rfl ⟨Nat.zero_le _,by simp⟩ fun x ⟨hx,hall⟩ ih=>?_
 simp only [go_sem,↓reduceIte,Nat.reduceEqDiff,Nat.reduceAdd,reduceCtorEq]
 refine ⟨fun h1=>⟨by omega,fun h2=>?_⟩,fun h1=>?_⟩
 ·rw [getD_eq h2]
  refine (hp _ (List.getElem_mem h2)).use (.bool _) (.cons (.int _ _ _) (up_self hc)) ?_
  simp only [go_sem,↓reduceIte,Nat.reduceEqDiff,Nat.reduceAdd,reduceCtorEq]
  refine ⟨fun h3=>?_,fun h3=>⟨by omega,?_⟩⟩
  ·exact Kv.Fin.now ⟨by rw [idx_some h2 hall h3],rfl⟩
  ·refine ih (x+1) ⟨by omega,?_⟩ (by omega) _ _ rfl rfl
   rw [any_take_succ _ h2,hall,h3]; rfl
 ·obtain rfl:x=l.length:=by omega
  rw [List.take_length] at hall
  exact Kv.Fin.now ⟨by rw [idx_none hall],rfl⟩
theorem p161 (l:List (List Int)) (hl:l.length≤4294967296) (fid:FuncId) (caps:List PV) (hc:∀ c∈caps,PV.upto 0 c) (p:List Int→Bool) (hp:∀ x∈l,Pure Tryz.prog fid (.list (ints x) :: caps) (.bool (p x))) :
  Pure Tryz.prog 161 [.list (rows l),.fn (.func fid) [] caps] (.int .i64 (idx p l)):=by
 refine e161 (by simp) fun _ _=>?_
 simp only [k161,argEnv,go_sem,↓reduceIte,Nat.reduceEqDiff,Nat.reduceAdd,reduceCtorEq]
 refine KL_ind k161_b0.eq_1 (fun x:Nat=>[(8,.int .i64 x),(7,.int .i64 l.length),(0,.list (rows l)),(1,.fn (.func fid) [] caps)]) (fun _=>[]) (fun x=>x≤l.length∧(l.take x).any p=false) (fun x=>l.length - x) [8,7,0,1] 0 rfl rfl ⟨Nat.zero_le _,by simp⟩ fun x ⟨hx,hall⟩ ih=>?_
 simp only [go_sem,↓reduceIte,Nat.reduceEqDiff,Nat.reduceAdd,reduceCtorEq]
 refine ⟨fun h1=>⟨by omega,fun h2=>?_⟩,fun h1=>?_⟩
 ·rw [getD_eq h2]
  refine (hp _ (List.getElem_mem h2)).use (.bool _) (.cons (.listi _ _) (up_self hc)) ?_
  simp only [go_sem,↓reduceIte,Nat.reduceEqDiff,Nat.reduceAdd,reduceCtorEq]
  refine ⟨fun h3=>?_,fun h3=>⟨by omega,?_⟩⟩
  ·exact Kv.Fin.now ⟨by rw [idx_some h2 hall h3],rfl⟩
  ·refine ih (x+1) ⟨by omega,?_⟩ (by omega) _ _ rfl rfl
   rw [any_take_succ _ h2,hall,h3]; rfl
 ·obtain rfl:x=l.length:=by omega
  rw [List.take_length] at hall
  exact Kv.Fin.now ⟨by rw [idx_none hall],rfl⟩
theorem p78 (l:List Int) (hl:l.length≤4294967296) (fid:FuncId) (caps:List PV) (hc:∀ c∈caps,PV.upto 0 c) (p:Int→Bool) (hp:∀ x∈l,Pure Tryz.prog fid (.int .i64 x :: caps) (.bool (p x))) :
  Pure Tryz.prog 78 [.list (ints l),.fn (.func fid) [] caps] (.bool (l.any p)):=by
 refine e78 (by simp) fun _ _=>?_
 simp only [k78,argEnv,go_sem,↓reduceIte,Nat.reduceEqDiff,Nat.reduceAdd,reduceCtorEq]
 refine (p144 l hl fid caps hc p hp).use (.int _ _) (.cons (.listi _ _) (.cons (Imm.fnc _ (up_self hc)) (.nil _))) ?_
 simp only [go_sem,↓reduceIte,Nat.reduceEqDiff,Nat.reduceAdd,reduceCtorEq]
 exact Kv.Fin.now ⟨by rw [idx_nonneg],rfl⟩
theorem p94 (l:List (List Int)) (hl:l.length≤4294967296) (fid:FuncId) (caps:List PV) (hc:∀ c∈caps,PV.upto 0 c) (p:List Int→Bool) (hp:∀ x∈l,Pure Tryz.prog fid (.list (ints x) :: caps) (.bool (p x))) :
  Pure Tryz.prog 94 [.list (rows l),.fn (.func fid) [] caps] (.bool (l.any p)):=by
 refine e94 (by simp) fun _ _=>?_
 simp only [k94,argEnv,go_sem,↓reduceIte,Nat.reduceEqDiff,Nat.reduceAdd,reduceCtorEq]
 refine (p161 l hl fid caps hc p hp).use (.int _ _) (.cons (.listr _ _) (.cons (Imm.fnc _ (up_self hc)) (.nil _))) ?_
 simp only [go_sem,↓reduceIte,Nat.reduceEqDiff,Nat.reduceAdd,reduceCtorEq]
 exact Kv.Fin.now ⟨by rw [idx_nonneg],rfl⟩
theorem p171 (x:Int) (n:Nat) (hn:n≤1048576):Pure Tryz.prog 171 [.int .i64 x,.fptr [.int .i64 n] 0] (.bool (!decide (0≤x∧x≤(n:Int) - 1))):=by
 refine e171 (by simp) fun _ _=>?_
 simp only [k171,argEnv,go_sem,↓reduceIte,Nat.reduceEqDiff,Nat.reduceAdd,reduceCtorEq]
 refine ⟨by omega,?_⟩
 refine (p80 _ _ _).use (.bool _) (.cons (.int _ _ _) (.cons (.int _ _ _) (.cons (.int _ _ _) (.nil _)))) ?_
 simp only [go_sem,↓reduceIte,Nat.reduceEqDiff,Nat.reduceAdd,reduceCtorEq]
 exact Kv.Fin.now ⟨rfl,rfl⟩
theorem p170 (r:List Int) (n:Nat) (hn:n≤1048576) (hr:r.length≤1048576):Pure Tryz.prog 170 [.list (ints r),.fptr [.int .i64 n] 0] (.bool (!rowOk n r)):=by
 refine e170 (by simp) fun _ _=>?_
 simp only [k170,argEnv,go_sem,↓reduceIte,Nat.reduceEqDiff,Nat.reduceAdd,reduceCtorEq]
 by_cases h:(r.length:Int)=n
 ·have h':r.length=n:=by omega
  simp only [h,h',not_true_eq_false,decide_false,false_implies,true_implies,true_and,and_true]
  refine (p78 r (by omega) 171 [.fptr [.int .i64 n] 0] (up_fi n) (fun x=>!decide (0≤x∧x≤(n:Int) - 1)) fun x _=>p171 x n hn).use (.bool _) (.cons (.listi _ _) (.cons (Imm.fnc _ (up_self (up_fi n))) (.nil _))) ?_
  simp only [go_sem,↓reduceIte,Nat.reduceEqDiff,Nat.reduceAdd,reduceCtorEq]
  refine Kv.Fin.now ⟨?_,rfl⟩
  simp [rowOk,h',List.any_eq_not_all_not]
 ·have h':¬ r.length=n:=by omega
  simp only [h,h',not_false_eq_true,decide_true,false_implies,true_implies,true_and,and_true,not_true_eq_false]
  repeat' (first | refine And.intro ?_ ?_ | intro _)
  all_goals (try contradiction)
  refine Kv.Fin.now ⟨?_,rfl⟩
  simp [rowOk,h']
theorem p106 (t:List (List Int)) (ht:t.length≤1048576) (hl:∀ r∈t,r.length≤1048576):Pure Tryz.prog 106 [.list (rows t)] (.bool (isTab t)):=by
 refine e106 (by simp) fun _ _=>?_
 simp only [k106,argEnv,go_sem,↓reduceIte,Nat.reduceEqDiff,Nat.reduceAdd,reduceCtorEq]
 try refine ⟨by omega,?_⟩
 refine (p80 _ _ _).use (.bool _) (.cons (.int _ _ _) (.cons (.int _ _ _) (.cons (.int _ _ _) (.nil _)))) ?_
 simp only [go_sem,↓reduceIte,Nat.reduceEqDiff,Nat.reduceAdd,reduceCtorEq]
 refine ⟨fun h=>?_,fun h=>?_⟩
 ·have h':1≤t.length∧t.length≤40:=by omega
  refine (p94 t (by omega) 170 [.fptr [.int .i64 t.length] 0] (up_fi _) (fun r=>!rowOk t.length r) fun r hr=>p170 r t.length ht (hl r hr)).use (.bool _) (.cons (.listr _ _) (.cons (Imm.fnc _ (.cons (Imm.boxi rfl) (.nil _))) (.nil _))) ?_
  simp only [go_sem,↓reduceIte,Nat.reduceEqDiff,Nat.reduceAdd,reduceCtorEq]
  refine Kv.Fin.clean (Plain.bool _).up ⟨?_,rfl⟩
  simp [isTab,h',List.any_eq_not_all_not]
 ·have h':¬ (1≤t.length∧t.length≤40):=by omega
  repeat' (first | refine And.intro ?_ ?_ | intro _)
  refine Kv.Fin.clean (Plain.bool _).up ⟨?_,rfl⟩
  simp [isTab,h']
end Go.Proofs.YtcfmmmloeaggmaaGreat
end
section
namespace Go.Proofs.YtcfmmmloeaggmaaGreat
open Go.Kv
set_option maxRecDepth 100000
def k172_b0:KC:=(.seq (.ops [oP 17 (.bin .lss (.t 16) (.t 15))])
 (.seq (.cond (.t 17) .skip (.exit 2))
 (.seq (.block 3 (.seq (.ops [mV 18 16,mV 6 18])
 (.ops [mV 19 5,mV 20 19,⟨(some 21),some (20,true),.mv (.t 4)⟩,⟨(some 22),some (20,true),.mv (.t 6)⟩,⟨(some 23),some (20,true),.idxS 1 (.t 21) (.t 22)⟩,⟨(some 24),some (20,true),.load false 1 (.t 23)⟩,⟨(some 25),some (20,true),.mv (.t 6)⟩,⟨(some 26),some (20,true),.bin .eql (.t 24) (.t 25)⟩,oP 27 (.pick (.t 20) (.t 26) (.c (.bool false))),mV 28 27,⟨(some 29),some (28,true),.mv (.t 0)⟩,⟨(some 30),some (28,true),.mv (.t 6)⟩,⟨(some 31),some (28,true),.idxS 1 (.t 29) (.t 30)⟩,⟨(some 32),some (28,true),.load false 1 (.t 31)⟩,⟨(some 33),some (28,true),.mv (.t 3)⟩,⟨(some 34),some (28,true),.idxS 1 (.t 32) (.t 33)⟩,⟨(some 35),some (28,true),.load false 1 (.t 34)⟩,⟨(some 36),some (28,true),.mv (.t 6)⟩,⟨(some 37),some (28,true),.bin .eql (.t 35) (.t 36)⟩,oP 38 (.pick (.t 28) (.t 37) (.c (.bool false))),mV 5 38])))
 (.ops [oP 39 (.bin .add (.t 16) (iC 1)),mV 16 39]))))
def k172_b1:KC:=(.seq (.ops [oP 10 (.bin .lss (.t 9) (.t 8))])
 (.seq (.cond (.t 10) .skip (.exit 0))
 (.seq (.block 1 (.seq (.ops [mV 11 9,oP 12 (.idxS 1 (.t 7) (.t 9)),oP 13 (.load false 1 (.t 12)),mV 3 11,mV 4 13])
 (.seq (.ops [oP 5 (.mv (.c (.bool true)))])
 (.seq (.seq (.ops [mV 14 0,oP 15 (.len false (.t 14)),oP 16 (.mv (iC 0))])
 (.block 2 (.loop k172_b0)))
 (.seq (.ops [mV 40 5])
 (.cond (.t 40) (.seq (.ops [mV 41 3,mV 2 41])
 .ret) .skip))))))
 (.ops [oP 42 (.bin .add (.t 9) (iC 1)),mV 9 42]))))
def k172:KC:=(.seq (.ops [oP 2 (.mv (iC 0))])
 (.seq (.seq (.ops [mV 7 0,oP 8 (.len false (.t 7)),oP 9 (.mv (iC 0))])
 (.block 0 (.loop k172_b1)))
 (.seq (.ops [oP 2 (.mv (iC (-1)))])
 .ret)))
theorem e172:Ent 172 43 [] [.t 2] k172:=ent Tryz.func172
end Go.Proofs.YtcfmmmloeaggmaaGreat
namespace Go.Proofs.YtcfmmmloeaggmaaGreat
open Go.Kv
set_option linter.unusedVariables false
set_option linter.unusedSimpArgs false
attribute [local irreducible] ACall PCall KL
def tat (t:List (List Int)) (i j:Nat):Int:=(t.getD i []).getD j 0
def okE (t:List (List Int)) (e y:Nat):Bool:=(List.range y).all fun x=>decide (tat t e x=x) && decide (tat t x e=x)
theorem okE_succ (t:List (List Int)) (e y:Nat):okE t e (y+1)=(okE t e y && (decide (tat t e y=y) && decide (tat t y e=y))):=by simp [okE,List.range_succ,List.all_append]
def idn (t:List (List Int)):Int:=idx (fun e=>okE t e t.length) (List.range t.length)
theorem tab_sq {t:List (List Int)} (h:isTab t=true):(1≤t.length∧t.length≤40)∧∀ i,i<t.length→(t.getD i []).length=t.length:=by
 simp only [isTab,Bool.and_eq_true,decide_eq_true_eq,List.all_eq_true] at h
 refine ⟨h.1,fun i hi=>?_⟩
 have:=h.2 _ (rows_getD_len hi)
 simp only [rowOk,Bool.and_eq_true,decide_eq_true_eq] at this
 exact this.1
theorem tab_at {t:List (List Int)} (h:isTab t=true) {i j:Nat} (hi:i<t.length) (hj:j<t.length):0≤tat t i j∧tat t i j≤(t.length:Int) - 1:=by
 have hs:=(tab_sq h).2 i hi
 simp only [isTab,Bool.and_eq_true,decide_eq_true_eq,List.all_eq_true] at h
 have:=h.2 _ (rows_getD_len hi)
 simp only [rowOk,Bool.and_eq_true,decide_eq_true_eq,List.all_eq_true] at this
 exact this.2 _ (by unfold tat; rw [getD_eq (l:=t.getD i []) (by omega)]; exact List.getElem_mem _)
theorem p172 (t:List (List Int)) (h:isTab t=true):Pure Tryz.prog 172 [.list (rows t)] (.int .i64 (idn t)):=by
 obtain ⟨hn,hsq⟩:=tab_sq h
 refine e172 (by simp) fun _ _=>?_
 simp only [k172,argEnv,go_sem,↓reduceIte,Nat.reduceEqDiff,Nat.reduceAdd,reduceCtorEq]
 refine KL_ind k172_b1.eq_1 (fun x:Nat=>[(9,.int .i64 x),(8,.int .i64 t.length),(7,.list (rows t)),(0,.list (rows t))]) (fun _=>[]) (fun x=>x≤t.length∧((List.range t.length).take x).any (fun e=>okE t e t.length)=false) (fun x=>t.length - x) [9,8,7,0] 0 rfl rfl ⟨Nat.zero_le _,by simp⟩ fun x ⟨hx,hall⟩ ihx=>?_
 simp only [go_sem,↓reduceIte,Nat.reduceEqDiff,Nat.reduceAdd,reduceCtorEq]
 refine ⟨fun h1=>⟨by omega,fun h1'=>?_⟩,fun h1=>?_⟩
 ·have hxl:x<(List.range t.length).length:=by simp; omega
  have hsx:=hsq x (by omega)
  refine KL_ind k172_b0.eq_1 (fun y:Nat=>[(16,.int .i64 y),(15,.int .i64 t.length),(5,.bool (okE t x y)),(4,.list (ints (t.getD x []))),(3,.int .i64 x),(9,.int .i64 x),(8,.int .i64 t.length),(7,.list (rows t)),(0,.list (rows t))]) (fun _=>[]) (fun y=>y≤t.length) (fun y=>t.length - y) [16,15,5,4,3,9,8,7,0] 0 rfl rfl (Nat.zero_le _) fun y hy ihy=>?_
  simp only [go_sem,↓reduceIte,Nat.reduceEqDiff,Nat.reduceAdd,reduceCtorEq]
  refine ⟨fun h2=>?_,fun h2=>?_⟩
  ·have hsy:=hsq y (by omega)
   have hs:=okE_succ t x y
   unfold tat at hs
   repeat' (first | refine And.intro ?_ ?_ | intro _)
   all_goals (try omega)
   all_goals (try first | exact True.intro | contradiction)
   all_goals refine ihy (y+1) (by omega) (by omega) _ _ ?_ rfl
   all_goals clear ihx ihy hall hsq h hn hx hsx hsy hy h2 h1
   all_goals rw [hs]
   all_goals clear hs
   all_goals simp only [keep,List.map_cons,List.map_nil,look_cons,↓reduceIte,Nat.reduceEqDiff,reduceCtorEq, *,decide_true,decide_false,Bool.true_and,Bool.false_and,Bool.and_false,Bool.and_true]
   all_goals (try rfl)
  ·obtain rfl:y=t.length:=by omega
   refine ⟨fun h3=>?_,fun h3=>⟨by omega,?_⟩⟩
   ·refine Kv.Fin.now ⟨?_,rfl⟩
    rw [idn,idx_some hxl hall (by simpa using h3)]
   ·refine ihx (x+1) ⟨by omega,?_⟩ (by omega) _ _ rfl rfl
    rw [any_take_succ _ hxl,hall]
    simpa using h3
 ·obtain rfl:x=t.length:=by omega
  rw [List.take_of_length_le (by simp)] at hall
  exact Kv.Fin.now ⟨by rw [idn,idx_none hall],rfl⟩
end Go.Proofs.YtcfmmmloeaggmaaGreat
end
section
namespace Go.Proofs.YtcfmmmloeaggmaaGreat
open Go.Kv
set_option maxRecDepth 100000
def k117:KC:=(.seq (.ops [oP 2 (.mv (.c (.nils)))])
 (.seq (.ops [oP 3 (.bsl false 2 1 []),mV 4 0,oP 5 (.app (.t 3) (.t 4) 2 1),mV 2 5])
 .ret))
theorem e117:Ent 117 6 [] [.t 2] k117:=ent Tryz.func117
end Go.Proofs.YtcfmmmloeaggmaaGreat
namespace Go.Proofs.YtcfmmmloeaggmaaGreat
open Go.Kv
set_option linter.unusedVariables false
set_option linter.unusedSimpArgs false
attribute [local irreducible] ACall PCall KL
theorem p117 (l:List Int) (hl:l.length≤1048576):ACall Tryz.prog 117 [.list (ints l)] [] (fun v s=>v = .ref 0 1 0 l.length∧s = [.arr 1 2 1 (ints l)]):=by
 refine e117 (by simp) fun _ _=>?_
 simp only [k117,argEnv,go_sem]
 repeat' (first | refine And.intro ?_ ?_ | intro _)
 all_goals (try omega)
 exact Kv.Fin.now ⟨rfl,rfl⟩
end Go.Proofs.YtcfmmmloeaggmaaGreat
end
end
