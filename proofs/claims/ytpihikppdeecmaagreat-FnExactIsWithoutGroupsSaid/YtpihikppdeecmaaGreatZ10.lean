/- Several texts of this session as one, less what the claim does not need. -/
import Derived.Test.YtpihikppdeecmaaGreatCb
import Derived.Test.YtpihikppdeecmaaGreatZ9
import Derived.Test.YtpihikppdeecmaaGreatZ7
import Derived.Test.YtpihikppdeecmaaGreatZ8
import Derived.Test.YtpihikppdeecmaaGreatZ6
import Derived.Test.YtpihikppdeecmaaGreatG1
section
/- The least acceptor: the implementation. -/
namespace Go.Proofs.YtpihikppdeecmaaGreat
open Go.Kv
set_option maxRecDepth 100000
def k43_b0 : KC := (.seq (.ops [oP 42 (.bin .lss (.t 41) (.t 40))])
  (.seq (.cond (.t 42) .skip (.exit 2))
  (.seq (.block 3 (.seq (.ops [mV 43 41, mV 10 43])
  (.seq (.draw [oP 44 (.load false 1 (.t 3)), mV 45 4, mV 46 10, oP 50 (.fieldA 1 (.t 8)), oP 47 (.pcall (fC 95) [(.t 45), (.t 46)]), oP 48 (.idxS 1 (.t 44) (.t 47)), oP 49 (.load false 1 (.t 48)), oP 51 (.idxA 5 1 (.t 50) (.t 49)), oP 52 (.load false 1 (.t 51)), mV 11 52])
  (.ops [mV 53 10, mV 54 4, oP 55 (.load false 1 (.t 3)), mV 56 11, oP 57 (.call (fC 95) [(.t 55), (.t 56)]), oP 58 (.idxS 1 (.t 54) (.t 57)), oP 59 (.load false 1 (.t 58)), oP 60 (.fieldA 1 (.t 9)), oP 61 (.idxA 5 1 (.t 60) (.t 53)), ⟨none, none, .store 1 (.t 61) (.t 59)⟩]))))
  (.ops [oP 62 (.bin .add (.t 41) (iC 1)), mV 41 62]))))
def k43_b1 : KC := (.seq (.ops [oP 35 (.bin .lss (.t 34) (.t 33))])
  (.seq (.cond (.t 35) .skip (.exit 0))
  (.seq (.block 1 (.seq (.ops [oP 36 (.idxS 6 (.t 32) (.t 34)), oP 37 (.load true 6 (.t 36)), oP 8 (.alloc [.int .i64 0, .int .i64 0, .int .i64 0, .int .i64 0, .int .i64 0, .int .i64 0]), ⟨none, none, .store 6 (.t 8) (.t 37)⟩])
  (.seq (.ops [mV 38 5, oP 39 (.build [.int .i64 0, .int .i64 0, .int .i64 0, .int .i64 0, .int .i64 0, .int .i64 0] [(0, 1, (.t 38))]), oP 9 (.alloc [.int .i64 0, .int .i64 0, .int .i64 0, .int .i64 0, .int .i64 0, .int .i64 0]), ⟨none, none, .store 6 (.t 9) (.t 39)⟩])
  (.seq (.seq (.ops [mV 40 5, oP 41 (.mv (iC 0))])
  (.block 2 (.loop k43_b0)))
  (.ops [oP 63 (.fieldA 0 (.t 6)), oP 64 (.load false 1 (.t 63)), oP 65 (.load true 6 (.t 9)), oP 66 (.bsl true 54 6 [(.t 65)]), oP 67 (.app (.t 64) (.t 66) 54 6), oP 68 (.fieldA 0 (.t 6)), ⟨none, none, .store 1 (.t 68) (.t 67)⟩])))))
  (.ops [oP 69 (.bin .add (.t 34) (iC 1)), mV 34 69]))))
def k43_b2 : KC := (.seq (.ops [oP 72 (.bin .lss (.t 71) (.t 70))])
  (.seq (.cond (.t 72) .skip (.exit 4))
  (.seq (.block 5 (.seq (.ops [mV 73 71, mV 12 73])
  (.seq (.draw [oP 74 (.load false 1 (.t 1)), oP 75 (.load false 1 (.t 3)), mV 76 4, mV 77 12, oP 78 (.pcall (fC 95) [(.t 76), (.t 77)]), oP 79 (.idxS 1 (.t 75) (.t 78)), oP 80 (.load false 1 (.t 79)), oP 81 (.pcall (fC 55) [(.t 74), (.t 80)])])
  (.cond (.t 81) (.ops [oP 82 (.fieldA 2 (.t 6)), oP 83 (.load false 1 (.t 82)), mV 84 12, oP 85 (.bsl true 2 1 [(.t 84)]), oP 86 (.app (.t 83) (.t 85) 2 1), oP 87 (.fieldA 2 (.t 6)), ⟨none, none, .store 1 (.t 87) (.t 86)⟩]) .skip))))
  (.ops [oP 88 (.bin .add (.t 71) (iC 1)), mV 71 88]))))
def k43 : KC := (.seq (.ops [oP 1 (.box true (.t 0)), oP 2 (.alloc [.nils, .int .i64 0, .nils])])
  (.seq (.draw [oP 13 (.load false 1 (.t 1)), oP 14 (.nilck (.t 13)), oP 15 (.fieldA 0 (.t 14)), oP 16 (.load false 1 (.t 15)), oP 17 (.load false 1 (.t 1)), oP 18 (.nilck (.t 17)), oP 19 (.fieldA 1 (.t 18)), oP 20 (.load false 1 (.t 19)), oP 21 (.pcall (fC 71) [(.t 16), (.t 20)]), oP 3 (.alloc [.nils]), ⟨none, none, .store 1 (.t 3) (.t 21)⟩])
  (.seq (.ops [oP 22 (.load false 1 (.t 3)), oP 23 (.len false (.t 22)), oP 24 (.mkfn (.func 93) [] [(.t 1), (.t 3)]), oP 25 (.call (fC 92) [(.t 23), (.t 24)]), mV 4 25])
  (.seq (.ops [mV 26 4, oP 27 (.call (fC 94) [(.t 26)]), mV 5 27])
  (.seq (.ops [oP 28 (.build [.nils, .int .i64 0, .nils] []), oP 6 (.alloc [.nils, .int .i64 0, .nils]), ⟨none, none, .store 3 (.t 6) (.t 28)⟩])
  (.seq (.seq (.ops [oP 29 (.load false 1 (.t 1)), oP 30 (.nilck (.t 29)), oP 31 (.fieldA 0 (.t 30)), oP 32 (.load false 1 (.t 31)), oP 33 (.len false (.t 32)), oP 34 (.mv (iC 0))])
  (.block 0 (.loop k43_b1)))
  (.seq (.seq (.ops [mV 70 5, oP 71 (.mv (iC 0))])
  (.block 4 (.loop k43_b2)))
  (.seq (.ops [oP 89 (.load true 3 (.t 6)), ⟨none, none, .store 3 (.t 2) (.t 89)⟩])
  .ret))))))))
theorem e43 : Ent 43 90 [1, 66, 85] [.cell 2 true 3] k43 := ent Tryz.func43 (by kernel_rfl) (by kernel_rfl) (by kernel_rfl) (fun _ => by kernel_rfl) (by kernel_rfl)
end Go.Proofs.YtpihikppdeecmaaGreat
namespace Go.Proofs.YtpihikppdeecmaaGreat
open Go.Kv
set_option linter.unusedVariables false
set_option linter.unusedSimpArgs false
attribute [local irreducible] ACall PCall KL
theorem p71P (fs : List (List Nat)) (n : Nat) (hf : ∀ f ∈ fs, Ok f n) (hn5 : n ≤ 5) (hfl : fs.length ≤ 1000) (q : Nat) (hq : q < n) : Pure Tryz.prog 71 [.list (aggs (fs.map mp)), .int .i64 q] (.list (ints (nz (ord fs q)))) :=
  p71 fs n hf hfl q hq 5 (by omega) (fun i => Nat.le_trans (bl_len hf hq i) hn5) _ fun i hi => by
    rw [rch_ord hf hn5 hq hi]
    exact ⟨rfl, rfl⟩
/-- The last classes. -/
noncomputable def lsL (fs : List (List Nat)) (la : List Nat) (q : Nat) : List Nat := (List.range (kF fs la q).length).filter fun c => decide ((ord fs q).getD ((kF fs la q).getD c 0) 0 ∈ la)
/-- The maps' row of one map. -/
noncomputable def lsR (fs : List (List Nat)) (la : List Nat) (q : Nat) (f : List Nat) : List Nat := (kF fs la q).map fun i => (kN fs la q).getD ((ord fs q).idxOf (f.getD ((ord fs q).getD i 0) 0)) 0
/-- A list of maps that grows in one place of the heap, beside the first four. -/
def GrM (σ : Heap) (v : PV) (l : List (List Int)) : Prop := (l = [] ∧ v = .nils) ∨ ∃ id ver, v = .ref id ver 0 l.length ∧ σ[id]? = some (.arr ver 54 6 (aggs l)) ∧ 3 < id
theorem GrM.keep {σ σ' : Heap} {v : PV} {l : List (List Int)} (h : GrM σ v l) (hk : ∀ id, id < σ.length → 3 < id → σ'[id]? = σ[id]?) : GrM σ' v l := by
  rcases h with h | ⟨id, ver, h1, h2, h3⟩
  · exact .inl h
  · exact .inr ⟨id, ver, h1, (hk id (List.getElem?_eq_some_iff.1 h2).1 h3).trans h2, h3⟩
theorem GrM.cs {σ : Heap} {v : PV} {l : List (List Int)} (h : GrM σ v l) : v.cs = [v] ∧ v.ok = true := by
  rcases h with ⟨_, rfl⟩ | ⟨id, ver, rfl, _, _⟩ <;> exact ⟨rfl, rfl⟩
theorem GrM.imm {σ : Heap} {v : PV} {l : List (List Int)} (h : GrM σ v l) : Imm σ v (.list (aggs l)) := by
  rcases h with ⟨rfl, rfl⟩ | ⟨id, ver, rfl, h, _⟩
  · exact .nils
  · exact .refa h
theorem GrM.push {σ : Heap} {v : PV} {l : List (List Int)} (h : GrM σ v l) (m : List Int) (hm : m.length = 6) (hn : l.length ≤ 1000) (h4 : 3 < σ.length) {K : PV → Heap → Prop}
    (hK : ∀ v' σ', GrM σ' v' (l ++ [m]) → (∀ id, id < 4 → σ'[id]? = σ[id]?) → σ.length ≤ σ'.length → K v' σ') : aApp 54 6 v (.list [.agg (ints m)]) σ K := by
  have hok : okL 6 [.agg (ints m)] = True := by
    have := okL_aggs 6 [m]
    simp only [List.mem_singleton, forall_eq, hm] at this
    simpa [aggs] using this
  rcases h with ⟨rfl, rfl⟩ | ⟨id, ver, rfl, h, h3⟩
  · simp only [aApp_nils, aNews_list, hok, true_and, AppN_def]
    refine ⟨by simp, hK _ _ (.inr ⟨σ.length, 0, rfl, by simp [aggs], h4⟩) (fun id hid => List.getElem?_append_left (by omega)) (by simp)⟩
  · have hlt := (List.getElem?_eq_some_iff.1 h).1
    simp only [aApp_ref, h, AppR_arr, aNews_list, hok, true_and, AppM_def]
    have e1 : (aggs l).take l.length ++ [PV.agg (ints m)] = aggs (l ++ [m]) := by
      rw [List.take_of_length_le (Nat.le_of_eq (aggs_length l))]
      simp [aggs]
    rw [e1]
    refine ⟨⟨by simp [aggs_length], by simp; omega⟩, hK _ _ (.inr ⟨id, ver + 1, by simp, List.getElem?_set_self hlt, h3⟩) (fun j hj => List.getElem?_set_ne (by omega)) (by simp)⟩
/-- A list of numbers that grows, above a place. -/
def GrN (σ : Heap) (lo : Nat) (v : PV) (l : List Int) : Prop := (l = [] ∧ v = .nils) ∨ ∃ id ver, v = .ref id ver 0 l.length ∧ σ[id]? = some (.arr ver 2 1 (ints l)) ∧ lo ≤ id
theorem GrN.keep {σ σ' : Heap} {lo : Nat} {v : PV} {l : List Int} (h : GrN σ lo v l) (hk : ∀ id, id < σ.length → lo ≤ id → σ'[id]? = σ[id]?) : GrN σ' lo v l := by
  rcases h with h | ⟨id, ver, h1, h2, h3⟩
  · exact .inl h
  · exact .inr ⟨id, ver, h1, (hk id (List.getElem?_eq_some_iff.1 h2).1 h3).trans h2, h3⟩
theorem GrN.cs {σ : Heap} {lo : Nat} {v : PV} {l : List Int} (h : GrN σ lo v l) : v.cs = [v] ∧ v.ok = true := by
  rcases h with ⟨_, rfl⟩ | ⟨id, ver, rfl, _, _⟩ <;> exact ⟨rfl, rfl⟩
theorem GrN.imm {σ : Heap} {lo : Nat} {v : PV} {l : List Int} (h : GrN σ lo v l) : Imm σ v (.list (ints l)) := by
  rcases h with ⟨rfl, rfl⟩ | ⟨id, ver, rfl, h, _⟩
  · exact .nils
  · exact .refi h
theorem GrN.push {σ : Heap} {lo : Nat} {v : PV} {l : List Int} (h : GrN σ lo v l) (x : Int) (hn : l.length ≤ 1000) (h4 : lo ≤ σ.length) {K : PV → Heap → Prop}
    (hK : ∀ v' σ', GrN σ' lo v' (l ++ [x]) → (∀ id, id < lo → σ'[id]? = σ[id]?) → σ.length ≤ σ'.length → K v' σ') : aApp 2 1 v (.list [.int .i64 x]) σ K := by
  have hok : okL 1 [PV.int .i64 x] = True := by simp [okL, PV.cs, PV.ok]
  rcases h with ⟨rfl, rfl⟩ | ⟨id, ver, rfl, h, h3⟩
  · simp only [aApp_nils, aNews_list, hok, true_and, AppN_def]
    refine ⟨by simp, hK _ _ (.inr ⟨σ.length, 0, rfl, by simp [ints], h4⟩) (fun id hid => List.getElem?_append_left (by omega)) (by simp)⟩
  · have hlt := (List.getElem?_eq_some_iff.1 h).1
    simp only [aApp_ref, h, AppR_arr, aNews_list, hok, true_and, AppM_def]
    have e1 : (ints l).take l.length ++ [PV.int .i64 x] = ints (l ++ [x]) := by
      rw [List.take_of_length_le (Nat.le_of_eq (ints_length l))]
      simp [ints]
    rw [e1]
    refine ⟨⟨by simp [ints_length], by simp; omega⟩, hK _ _ (.inr ⟨id, ver + 1, by simp, List.getElem?_set_self hlt, h3⟩) (fun j hj => List.getElem?_set_ne (by omega)) (by simp)⟩
theorem p43 (fs : List (List Nat)) (n : Nat) (hf : ∀ f ∈ fs, Ok f n) (hn5 : n ≤ 5) (h0 : 0 < fs.length) (hfl : fs.length ≤ 1000) (q : Nat) (hq : q < n) (la : List Nat) (hL : la.length ≤ 1048576) :
    Pure Tryz.prog 43 [.fptr [.list (aggs (fs.map mp)), .int .i64 q, .list (ints (nz la))] 0] (.agg [.list (aggs ((lsM fs la q).map mp)), .int .i64 0, .list (ints (nz (lsL fs la q)))]) := by
  obtain ⟨o1, o2, o3, o4, o5, o6⟩ := ord_ok hf hn5 hq
  have hcl := p93 fs n hf hn5 hfl (.int .i64 q) la hL (ord fs q) o1 (by omega)
  have hnum := p92 (ord fs q).length (by omega) 93 [.fptr [.fptr [.list (aggs (fs.map mp)), .int .i64 q, .list (ints (nz la))] 0] 0, .fptr [.list (ints (nz (ord fs q)))] 0] (fun i k => smB fs la ((ord fs q).getD i 0) ((ord fs q).getD k 0)) hcl
  have hke : (nmA (fun i k => smB fs la ((ord fs q).getD i 0) ((ord fs q).getD k 0)) (ord fs q).length).1 = kN fs la q := (cls_eq fs la (ord fs q)).1
  rw [hke] at hnum
  have hkl := kN_len fs la q
  have hkF := kF_le fs la q
  have hkp := kF_pos (fs := fs) (la := la) (q := q) o5
  have hmx := kN_max (fs := fs) (la := la) (q := q) o5
  have hon := nz_len (ord fs q)
  have hkn := nz_len (kN fs la q)
  have hmany := p94 (nz (kN fs la q)) (by omega) (by omega) (fun k hk => by obtain ⟨z, _, rfl⟩ := List.mem_map.1 hk; omega) (by omega)
  rw [hmx] at hmany
  refine e43 (by simp) fun _ _ => ?_
  simp only [k43, argEnv, go_sem]
  try simp only [OpK_eq, HKv, go_sem]
  refine (p71P fs n hf hn5 hfl q hq).fgo ?_
  have hput1 : ∀ v, putC [PV.nils] 0 [v] = [v] := fun v => by unfold putC; first | rfl | (split <;> rfl) | simp
  try simp only [OpK_eq, HKv, hput1, hon, go_sem]
  refine ACall.lend hnum (.cons Imm.still (.cons (Imm.fnc _ (.cons Imm.still (.cons (Imm.ptr 1 0 [.list (ints (nz (ord fs q)))] [.list (ints (nz (ord fs q)))] rfl rfl (by simp [PV.ok]) (fun j c d hc hd => by rw [hc] at hd; cases hd; have := List.mem_of_getElem? hc; simp only [List.mem_singleton] at this; subst this; exact .still)) (.nil _)))) (.nil _))) fun v s ⟨hv, hs⟩ => ?_
  subst hv; subst hs
  refine ⟨⟨free_ref _ _ _ _, Free.ints _ _ _ _⟩, ?_⟩
  have hlN : (nz (kN fs la q)).length = (ord fs q).length := by omega
  try simp only [OpK_eq, HKv, ren_ref, go_sem]
  refine hmany.lend (.cons (Imm.refn (e := 2) (ver := 0) rfl hlN.symm) (.nil _)) ?_
  have hput3 : ∀ a b c d e f, putC [a, b, c] 0 [d, e, f] = [d, e, f] := fun a b c d e f => putC3 a b c d e f
  try simp only [OpK_eq, HKv, hput3, go_sem]
  have hput0 : ∀ a b c d, putC [a, b, c] 0 [d] = [d, b, c] := fun a b c d => by unfold putC; first | rfl | (split <;> rfl) | simp
  have hput2 : ∀ a b c d, putC [a, b, c] 2 [d] = [a, b, d] := fun a b c d => by unfold putC; first | rfl | (split <;> rfl) | simp
  refine KL_ind k43_b1.eq_1 (fun x : Nat × PV × Heap => [(1, .fptr [.fptr [.list (aggs (fs.map mp)), .int .i64 q, .list (ints (nz la))] 0] 0), (2, .ptr 0 0), (3, .ptr 1 0), (4, .ref 2 0 0 (ord fs q).length), (5, .int .i64 (kF fs la q).length), (6, .ptr 3 0), (32, .list (aggs (fs.map mp))), (33, .int .i64 fs.length), (34, .int .i64 x.1)]) (fun x => x.2.2)
    (fun x => x.1 ≤ fs.length ∧ x.2.2[0]? = some (.box [.nils, .int .i64 0, .nils]) ∧ x.2.2[1]? = some (.box [.list (ints (nz (ord fs q)))]) ∧ x.2.2[2]? = some (.arr 0 2 1 (ints (nz (kN fs la q)))) ∧ x.2.2[3]? = some (.box [x.2.1, .int .i64 0, .nils]) ∧ GrM x.2.2 x.2.1 ((fs.take x.1).map fun f => mp (lsR fs la q f))) (fun x => fs.length - x.1) [1, 2, 3, 4, 5, 6, 32, 33, 34]
    (0, .nils, _) (by simp [keep]) rfl ⟨Nat.zero_le _, rfl, rfl, by simp, rfl, .inl ⟨by simp, rfl⟩⟩ fun ⟨x, mv, σ⟩ ⟨hx, h0', h1', h2', h3', hG⟩ ih => ?_
  simp only at hx h0' h1' h2' h3' hG
  have lt3 := (List.getElem?_eq_some_iff.1 h3').1
  try simp only [OpK_eq, HKv, List.length_map, go_sem]
  refine ⟨fun g1 => ?_, fun g1 => ?_⟩
  · have hxl : x < fs.length := by omega
    have hfx := hf _ (List.getElem_mem hxl)
    have h6 := hfx.mp_len
    rw [map_getD hxl]
    have ht0 : ∀ (a : AObj) Y, (σ ++ a :: Y)[σ.length]? = some a := fun a Y => by simp
    have ht1 : ∀ (a b : AObj) Y, (σ ++ a :: b :: Y)[σ.length + 1]? = some b := fun a b Y => by
      rw [List.getElem?_append_right (by omega)]; simp
    have hs0 : ∀ (a z : AObj) Y, (σ ++ a :: Y).set σ.length z = σ ++ z :: Y := fun a z Y => by
      rw [List.set_append_right _ _ (Nat.le_refl _)]; simp
    have hs1 : ∀ (a b z : AObj) Y, (σ ++ a :: b :: Y).set (σ.length + 1) z = σ ++ a :: z :: Y := fun a b z Y => by
      rw [List.set_append_right _ _ (by omega)]; simp
    try simp only [OpK_eq, HKv, h6, ht0, ht1, hs0, hs1, List.append_assoc, List.cons_append, List.nil_append, go_sem]
    refine ⟨g1, fun _ => ?_⟩
    have hRl : (lsR fs la q fs[x]).length = (kF fs la q).length := by simp [lsR]
    have hlt : ∀ (Y : Heap) id, id < 4 → (σ ++ Y)[id]? = σ[id]? := fun Y id hid => List.getElem?_append_left (by omega)
    refine KL_ind k43_b0.eq_1 (fun c : Nat => [(1, .fptr [.fptr [.list (aggs (fs.map mp)), .int .i64 q, .list (ints (nz la))] 0] 0), (2, .ptr 0 0), (3, .ptr 1 0), (4, .ref 2 0 0 (ord fs q).length), (5, .int .i64 (kF fs la q).length), (6, .ptr 3 0), (8, .ptr σ.length 0), (9, .ptr (σ.length + 1) 0), (32, .list (aggs (fs.map mp))), (33, .int .i64 fs.length), (34, .int .i64 x), (40, .int .i64 (kF fs la q).length), (41, .int .i64 c)]) (fun c => σ ++ [.box (ints (mp fs[x])), .box (ints (mpN (kF fs la q).length ((lsR fs la q fs[x]).take c)))])
      (fun c => c ≤ (kF fs la q).length) (fun c => (kF fs la q).length - c) [1, 2, 3, 4, 5, 6, 8, 9, 32, 33, 34, 40, 41] 0 (by simp [keep]) rfl (Nat.zero_le _) fun c hc ihc => ?_
    have e1 : ∀ Y, (σ ++ Y)[1]? = some (.box [.list (ints (nz (ord fs q)))]) := fun Y => (hlt Y 1 (by omega)).trans h1'
    have e2 : ∀ Y, (σ ++ Y)[2]? = some (.arr 0 2 1 (ints (nz (kN fs la q)))) := fun Y => (hlt Y 2 (by omega)).trans h2'
    have e3 : ∀ Y, (σ ++ Y)[3]? = some (.box [mv, .int .i64 0, .nils]) := fun Y => (hlt Y 3 (by omega)).trans h3'
    have h6R : (mpN ((kF fs la q).length : Int) ((lsR fs la q fs[x]).take c)).length = 6 := mpN_length (by simp; omega)
    try simp only [OpK_eq, HKv, e1, e2, go_sem]
    refine ⟨fun g3 => ?_, fun g3 => ?_⟩
    · have hcl : c < (kF fs la q).length := by omega
      obtain ⟨k1, k2, k3⟩ := kF_one (fs := fs) (la := la) (q := q) hcl
      obtain ⟨m1, m2⟩ := kN_idx (fs := fs) (la := la) (q := q) hcl
      have hidx : idx (fun y => decide ((c : Int) = y)) (nz (kN fs la q)) = ((kF fs la q)[c] : Int) := by rw [idx_nz, if_pos m1, m2]
      have hog : (nz (ord fs q)).getD (kF fs la q)[c] 0 = ((ord fs q).getD (kF fs la q)[c] 0 : Int) := by simp [nz, List.getD_eq_getElem?_getD, k1]
      have hto : fs[x].getD ((ord fs q).getD (kF fs la q)[c] 0) 0 ∈ ord fs q := o4 _ (List.getElem_mem hxl) _ (by
        rw [List.getD_eq_getElem?_getD, List.getElem?_eq_getElem k1]; exact List.getElem_mem k1)
      have hoo : (ord fs q).getD (kF fs la q)[c] 0 < n := o1 _ (by
        rw [List.getD_eq_getElem?_getD, List.getElem?_eq_getElem k1]; exact List.getElem_mem k1)
      have hRc : (lsR fs la q fs[x]).take (c + 1) = (lsR fs la q fs[x]).take c ++ [(kN fs la q).getD ((ord fs q).idxOf (fs[x].getD ((ord fs q).getD (kF fs la q)[c] 0) 0)) 0] := by
        rw [List.take_succ_eq_append_getElem (by omega)]
        simp [lsR]
      refine (p95 (nz (kN fs la q)) c (by omega)).puse (Plain.int _ _) (.cons (Imm.refn (e2 _) hlN.symm) (.cons Imm.still (.nil _))) ?_
      rw [hidx]
      generalize (kF fs la q)[c] = kc at *
      generalize (ord fs q).getD kc 0 = o at *
      have hot : (o : Int).toNat = o := by omega
      have hkct : (kc : Int).toNat = kc := by omega
      try simp only [OpK_eq, HKv, e1, e2, ht0, ht1, h6, hon, hog, hot, hkct, go_sem]
      refine ⟨by omega, fun _ => ⟨by omega, by omega, fun _ => ?_⟩⟩
      generalize fs[x].getD o 0 = t at *
      have hit := List.idxOf_lt_length_iff.2 hto
      have hix2 := p95 (nz (ord fs q)) t (by omega)
      rw [idx_nz, if_pos hto] at hix2
      generalize (ord fs q).idxOf t = d at *
      have hdt : (d : Int).toNat = d := by omega
      have hkg : (nz (kN fs la q)).getD d 0 = ((kN fs la q).getD d 0 : Int) := by simp [nz, List.getD_eq_getElem?_getD, show d < (kN fs la q).length by omega]
      refine hix2.go ?_
      try simp only [OpK_eq, HKv, e1, e2, ht0, ht1, hs1, h6R, hlN, hdt, hkg, go_sem]
      refine ⟨⟨by omega, Nat.le_refl _⟩, by omega, fun _ => ⟨by omega, by omega, by omega, ihc (c + 1) (by omega) (by omega) _ _ (by simp [keep]) ?_⟩⟩
      rw [hRc, mpN_pushI (by simp; omega) (by simp; omega)]
    · have hce : c = (kF fs la q).length := by omega
      subst hce
      have hRt : (lsR fs la q fs[x]).take (kF fs la q).length = lsR fs la q fs[x] := List.take_of_length_le (Nat.le_of_eq hRl)
      have hRm : mpN ((kF fs la q).length : Int) (lsR fs la q fs[x]) = mp (lsR fs la q fs[x]) := by rw [mp, hRl]
      rw [hRt, hRm] at *
      have h6m : (mp (lsR fs la q fs[x])).length = 6 := mpN_length (by omega)
      have h6t : (mp (lsR fs la q fs[x])).take 6 = mp (lsR fs la q fs[x]) := List.take_of_length_le (Nat.le_of_eq h6m)
      try simp only [OpK_eq, HKv, e3, ht1, h6R, h6m, h6t, go_sem]
      have hG2 : GrM (σ ++ [.box (ints (mp fs[x])), .box (ints (mp (lsR fs la q fs[x])))]) mv ((fs.take x).map fun f => mp (lsR fs la q f)) := hG.keep fun id hid _ => List.getElem?_append_left hid
      refine hG2.push (mp (lsR fs la q fs[x])) h6m (by simp; omega) (by simp; omega) fun v' σ' q1 q2 q3 => ?_
      have r0 := (q2 0 (by omega)).trans ((hlt _ 0 (by omega)).trans h0')
      have r1 := (q2 1 (by omega)).trans (e1 _)
      have r2 := (q2 2 (by omega)).trans (e2 _)
      have r3 := (q2 3 (by omega)).trans (e3 _)
      have rl := (List.getElem?_eq_some_iff.1 r3).1
      have hcs := q1.cs
      try simp only [OpK_eq, HKv, r3, hcs.1, hcs.2, hput0, go_sem]
      refine ⟨by omega, ih (x + 1, v', σ'.set 3 (.box [v', .int .i64 0, .nils])) ⟨by show x + 1 ≤ fs.length; omega, (List.getElem?_set_ne (by decide)).trans r0, (List.getElem?_set_ne (by decide)).trans r1, (List.getElem?_set_ne (by decide)).trans r2, List.getElem?_set_self rl, ?_⟩ (by show fs.length - (x + 1) < fs.length - x; omega) _ _ (by simp [keep]) rfl⟩
      show GrM _ v' ((fs.take (x + 1)).map fun f => mp (lsR fs la q f))
      rw [List.take_succ_eq_append_getElem hxl, List.map_append]
      exact q1.keep fun id _ h3 => List.getElem?_set_ne (by omega)
  · obtain rfl : x = fs.length := by omega
    rw [List.take_length] at hG
    have hMe : (fs.map fun f => mp (lsR fs la q f)) = (lsM fs la q).map mp := by
      unfold lsM lsR
      rw [List.map_map]; rfl
    rw [hMe] at hG
    have hcsM := hG.cs
    try simp only [OpK_eq, HKv, go_sem]
    refine KL_ind k43_b2.eq_1 (fun x : Nat × PV × Heap => [(1, .fptr [.fptr [.list (aggs (fs.map mp)), .int .i64 q, .list (ints (nz la))] 0] 0), (2, .ptr 0 0), (3, .ptr 1 0), (4, .ref 2 0 0 (ord fs q).length), (6, .ptr 3 0), (70, .int .i64 (kF fs la q).length), (71, .int .i64 x.1)]) (fun x => x.2.2)
      (fun x => x.1 ≤ (kF fs la q).length ∧ (∀ id, id < σ.length → id ≠ 3 → x.2.2[id]? = σ[id]?) ∧ x.2.2[3]? = some (.box [mv, .int .i64 0, x.2.1]) ∧ GrN x.2.2 σ.length x.2.1 (nz ((List.range x.1).filter fun c => decide ((ord fs q).getD ((kF fs la q).getD c 0) 0 ∈ la))) ∧ σ.length ≤ x.2.2.length) (fun x => (kF fs la q).length - x.1) [1, 2, 3, 4, 6, 70, 71]
      (0, .nils, σ) (by simp [keep]) rfl ⟨Nat.zero_le _, fun id _ _ => rfl, h3', .inl ⟨by simp [nz], rfl⟩, Nat.le_refl _⟩ fun ⟨c, lv, τ⟩ ⟨hc, hold, t3', hN, hle⟩ ihc => ?_
    simp only at hc hold t3' hN hle
    have t0' := (hold 0 (by omega) (by decide)).trans h0'
    have t1' := (hold 1 (by omega) (by decide)).trans h1'
    have t2' := (hold 2 (by omega) (by decide)).trans h2'
    have tl := (List.getElem?_eq_some_iff.1 t3').1
    try simp only [OpK_eq, HKv, t1', go_sem]
    refine ⟨fun g3 => ?_, fun g3 => ?_⟩
    · have hcl : c < (kF fs la q).length := by omega
      obtain ⟨k1, k2, k3⟩ := kF_one (fs := fs) (la := la) (q := q) hcl
      obtain ⟨m1, m2⟩ := kN_idx (fs := fs) (la := la) (q := q) hcl
      have hidx : idx (fun y => decide ((c : Int) = y)) (nz (kN fs la q)) = ((kF fs la q)[c] : Int) := by rw [idx_nz, if_pos m1, m2]
      have hog : (nz (ord fs q)).getD (kF fs la q)[c] 0 = ((ord fs q).getD (kF fs la q)[c] 0 : Int) := by simp [nz, List.getD_eq_getElem?_getD, k1]
      have hfl : (List.range (c + 1)).filter (fun c => decide ((ord fs q).getD ((kF fs la q).getD c 0) 0 ∈ la)) = (List.range c).filter (fun c => decide ((ord fs q).getD ((kF fs la q).getD c 0) 0 ∈ la)) ++ if decide ((ord fs q).getD (kF fs la q)[c] 0 ∈ la) = true then [c] else [] := by
        have e : (kF fs la q).getD c 0 = (kF fs la q)[c] := by rw [List.getD_eq_getElem?_getD, List.getElem?_eq_getElem hcl]; rfl
        rw [List.range_succ, List.filter_append, List.filter_cons, e]
        simp only [List.filter_nil]
      refine (p95 (nz (kN fs la q)) c (by omega)).puse (Plain.int _ _) (.cons (Imm.refn t2' hlN.symm) (.cons Imm.still (.nil _))) ?_
      rw [hidx]
      generalize (kF fs la q)[c] = kc at *
      generalize (ord fs q).getD kc 0 = o at *
      have hkct : (kc : Int).toNat = kc := by omega
      try simp only [OpK_eq, HKv, t1', hon, hog, hkct, go_sem]
      refine ⟨by omega, fun _ => ?_⟩
      refine (p55 _ _ la hL o).pgo ?_
      have hNl : ((List.range c).filter fun c => decide ((ord fs q).getD ((kF fs la q).getD c 0) 0 ∈ la)).length ≤ c := by
        have := List.length_filter_le (fun c => decide ((ord fs q).getD ((kF fs la q).getD c 0) 0 ∈ la)) (List.range c)
        simpa using this
      cases hd : decide (o ∈ la) with
      | false =>
        rw [hd, if_neg (by simp), List.append_nil] at hfl
        try simp only [OpK_eq, HKv, go_sem]
        refine ⟨by omega, ihc (c + 1, lv, τ) ⟨by show c + 1 ≤ _; omega, hold, t3', ?_, hle⟩ (by show _ - (c + 1) < _ - c; omega) _ _ (by simp [keep]) rfl⟩
        show GrN τ σ.length lv (nz ((List.range (c + 1)).filter _))
        rw [hfl]; exact hN
      | true =>
        rw [hd, if_pos rfl] at hfl
        try simp only [OpK_eq, HKv, t3', go_sem]
        refine hN.push c (by rw [nz_len]; omega) hle fun v' τ' q1 q2 q3 => ?_
        have r3 := (q2 3 (by omega)).trans t3'
        have rl := (List.getElem?_eq_some_iff.1 r3).1
        have hcs := q1.cs
        try simp only [OpK_eq, HKv, r3, hcs.1, hcs.2, hput2, go_sem]
        refine ⟨by omega, ihc (c + 1, v', τ'.set 3 (.box [mv, .int .i64 0, v'])) ⟨by show c + 1 ≤ _; omega, fun id hid h3 => ?_, List.getElem?_set_self rl, ?_, ?_⟩ (by show _ - (c + 1) < _ - c; omega) _ _ (by simp [keep]) rfl⟩
        · exact (List.getElem?_set_ne (Ne.symm h3)).trans ((q2 id hid).trans (hold id hid h3))
        · show GrN _ σ.length v' (nz ((List.range (c + 1)).filter _))
          have e : nz ((List.range c).filter (fun c => decide ((ord fs q).getD ((kF fs la q).getD c 0) 0 ∈ la)) ++ [c]) = nz ((List.range c).filter fun c => decide ((ord fs q).getD ((kF fs la q).getD c 0) 0 ∈ la)) ++ [(c : Int)] := by simp [nz]
          rw [hfl, e]
          exact q1.keep fun id _ hlo => List.getElem?_set_ne (by omega)
        · show σ.length ≤ (τ'.set 3 _).length
          rw [List.length_set]; omega
    · have hce : c = (kF fs la q).length := by omega
      subst hce
      have hcsN := hN.cs
      have hG2 : GrM τ mv ((lsM fs la q).map mp) := hG.keep fun id hid h3 => hold id hid (by omega)
      have t0l := (List.getElem?_eq_some_iff.1 t0').1
      have hG3 : GrM (τ.set 0 (.box [mv, .int .i64 0, lv])) mv ((lsM fs la q).map mp) := hG2.keep fun id _ h3 => List.getElem?_set_ne (by omega)
      have hN3 : GrN (τ.set 0 (.box [mv, .int .i64 0, lv])) σ.length lv (nz (lsL fs la q)) := hN.keep fun id _ hlo => List.getElem?_set_ne (by omega)
      have hself : ∀ o, (τ.set 0 o)[0]? = some o := fun o => List.getElem?_set_self t0l
      try simp only [OpK_eq, HKv, t3', t0', hself, subC3, hput3, hcsM.2, hcsN.2, go_sem]
      refine Kv.Fin.freeze (v' := .agg [.list (aggs ((lsM fs la q).map mp)), .int .i64 0, .list (ints (nz (lsL fs la q)))]) (.agg _ _ (by simp) (by simp [PV.ok, hcsM.2, hcsN.2]) fun i c d hc hd => ?_) ⟨rfl, rfl⟩
      rcases i with _ | _ | _ | i
      · simp only [List.getElem?_cons_zero, Option.some.injEq] at hc hd; subst hc; subst hd
        exact hG3.imm
      · simp only [List.getElem?_cons_succ, List.getElem?_cons_zero, Option.some.injEq] at hc hd; subst hc; subst hd
        exact .int _ _ _
      · simp only [List.getElem?_cons_succ, List.getElem?_cons_zero, Option.some.injEq] at hc hd; subst hc; subst hd
        exact hN3.imm
      · simp at hc
end Go.Proofs.YtpihikppdeecmaaGreat
end
section
/- The least acceptor: the specification. -/
namespace Go.Proofs.YtpihikppdeecmaaGreat
open Go.Kv
set_option maxRecDepth 100000
def k37_b0 : KC := (.seq (.seq (.ops [mV 26 8, mV 27 4, oP 28 (.len false (.t 27)), oP 29 (.bin .lss (.t 26) (.t 28)), mV 30 29, ⟨(some 31), some (30, true), .mv (.t 7)⟩, ⟨(some 32), some (30, true), .bin .lss (.t 31) (iC 0)⟩, oP 33 (.pick (.t 30) (.t 32) (.c (.bool false)))])
  (.cond (.t 33) .skip (.exit 2)))
  (.seq (.block 3 (.seq (.draw [oP 37 (.load true 3 (.t 1)), oP 38 (.load true 3 (.t 1)), mV 39 4, mV 40 8, oP 41 (.idxS 1 (.t 39) (.t 40)), oP 42 (.load false 1 (.t 41)), mV 43 3, mV 44 6, oP 45 (.idxS 1 (.t 43) (.t 44)), oP 46 (.load false 1 (.t 45)), oP 47 (.pcall (fC 52) [(.t 37), (.t 38), (.t 42), (.t 46)]), mV 36 47, oP 48 (.extr 0 (.t 36)), oP 49 (.extr 1 (.t 36)), mV 9 48, mV 10 49])
  (.seq (.ops [mV 50 10, oP 51 (.not (.t 50))])
  (.cond (.t 51) (.ops [mV 52 8, mV 7 52]) .skip))))
  (.ops [mV 34 8, oP 35 (.bin .add (.t 34) (iC 1)), mV 8 35])))
def k37_b1 : KC := (.seq (.seq (.ops [mV 20 6, mV 21 3, oP 22 (.len false (.t 21)), oP 23 (.bin .lss (.t 20) (.t 22))])
  (.cond (.t 23) .skip (.exit 0)))
  (.seq (.block 1 (.seq (.ops [oP 7 (.mv (iC (-1)))])
  (.seq (.seq (.ops [oP 8 (.mv (iC 0))])
  (.block 2 (.loop k37_b0)))
  (.seq (.seq (.ops [mV 53 7, oP 54 (.bin .lss (.t 53) (iC 0))])
  (.cond (.t 54) (.seq (.ops [mV 55 4, oP 56 (.len false (.t 55)), mV 7 56])
  (.ops [mV 57 4, mV 58 3, mV 59 6, oP 60 (.idxS 1 (.t 58) (.t 59)), oP 61 (.load false 1 (.t 60)), oP 62 (.bsl true 2 1 [(.t 61)]), oP 63 (.app (.t 57) (.t 62) 2 1), mV 4 63])) .skip))
  (.ops [mV 64 5, mV 65 3, mV 66 6, oP 67 (.idxS 1 (.t 65) (.t 66)), oP 68 (.load false 1 (.t 67)), mV 69 7, oP 70 (.idxS 1 (.t 64) (.t 68)), ⟨none, none, .store 1 (.t 70) (.t 69)⟩])))))
  (.ops [mV 24 6, oP 25 (.bin .add (.t 24) (iC 1)), mV 6 25])))
def k37_b2 : KC := (.seq (.seq (.ops [mV 84 14, mV 85 4, oP 86 (.len false (.t 85)), oP 87 (.bin .lss (.t 84) (.t 86))])
  (.cond (.t 87) .skip (.exit 6)))
  (.seq (.block 7 (.draw [mV 90 14, mV 91 5, oP 92 (.fieldA 0 (.t 1)), oP 93 (.load false 1 (.t 92)), mV 94 12, mV 95 4, mV 96 14, oP 97 (.idxS 1 (.t 95) (.t 96)), oP 98 (.load false 1 (.t 97)), oP 99 (.idxS 6 (.t 93) (.t 94)), oP 100 (.fieldA 1 (.t 99)), oP 101 (.idxA 5 1 (.t 100) (.t 98)), oP 102 (.load false 1 (.t 101)), oP 103 (.idxS 1 (.t 91) (.t 102)), oP 104 (.load false 1 (.t 103)), oP 105 (.fieldA 1 (.t 13)), oP 106 (.idxA 5 1 (.t 105) (.t 90)), ⟨none, none, .store 1 (.t 106) (.t 104)⟩]))
  (.ops [mV 88 14, oP 89 (.bin .add (.t 88) (iC 1)), mV 14 89])))
def k37_b3 : KC := (.seq (.seq (.ops [mV 74 12, oP 75 (.fieldA 0 (.t 1)), oP 76 (.load false 1 (.t 75)), oP 77 (.len false (.t 76)), oP 78 (.bin .lss (.t 74) (.t 77))])
  (.cond (.t 78) .skip (.exit 4)))
  (.seq (.block 5 (.seq (.ops [mV 81 4, oP 82 (.len false (.t 81)), oP 83 (.build [.int .i64 0, .int .i64 0, .int .i64 0, .int .i64 0, .int .i64 0, .int .i64 0] [(0, 1, (.t 82))]), oP 13 (.alloc [.int .i64 0, .int .i64 0, .int .i64 0, .int .i64 0, .int .i64 0, .int .i64 0]), ⟨none, none, .store 6 (.t 13) (.t 83)⟩])
  (.seq (.seq (.ops [oP 14 (.mv (iC 0))])
  (.block 6 (.loop k37_b2)))
  (.ops [oP 107 (.fieldA 0 (.t 11)), oP 108 (.load false 1 (.t 107)), oP 109 (.load true 6 (.t 13)), oP 110 (.bsl true 54 6 [(.t 109)]), oP 111 (.app (.t 108) (.t 110) 54 6), oP 112 (.fieldA 0 (.t 11)), ⟨none, none, .store 1 (.t 112) (.t 111)⟩]))))
  (.ops [mV 79 12, oP 80 (.bin .add (.t 79) (iC 1)), mV 12 80])))
def k37_b4 : KC := (.seq (.seq (.ops [mV 113 15, mV 114 4, oP 115 (.len false (.t 114)), oP 116 (.bin .lss (.t 113) (.t 115))])
  (.cond (.t 116) .skip (.exit 8)))
  (.seq (.block 9 (.seq (.draw [oP 119 (.load true 3 (.t 1)), mV 120 4, mV 121 15, oP 122 (.idxS 1 (.t 120) (.t 121)), oP 123 (.load false 1 (.t 122)), oP 124 (.pcall (fC 84) [(.t 119), (.t 123)])])
  (.cond (.t 124) (.ops [oP 125 (.fieldA 2 (.t 11)), oP 126 (.load false 1 (.t 125)), mV 127 15, oP 128 (.bsl true 2 1 [(.t 127)]), oP 129 (.app (.t 126) (.t 128) 2 1), oP 130 (.fieldA 2 (.t 11)), ⟨none, none, .store 1 (.t 130) (.t 129)⟩]) .skip)))
  (.ops [mV 117 15, oP 118 (.bin .add (.t 117) (iC 1)), mV 15 118])))
def k37 : KC := (.seq (.ops [oP 1 (.box true (.t 0)), oP 2 (.alloc [.nils, .int .i64 0, .nils])])
  (.seq (.ops [oP 16 (.load true 3 (.t 1)), oP 17 (.call (fC 83) [(.t 16)]), mV 3 17])
  (.seq (.tree (.alt (.op (oP 18 (.bsl false 2 1 [])) (.op (mV 4 18) (.op (oP 19 (.mks 2 1 (.int .i64 0) (iC 5) (iC 5))) (.op (mV 5 19) .fin)))) (.op (oP 19 (.mks 2 1 (.int .i64 0) (iC 5) (iC 5))) (.op (oP 18 (.bsl false 2 1 [])) (.op (mV 4 18) (.op (mV 5 19) .fin))))))
  (.seq (.seq (.ops [oP 6 (.mv (iC 0))])
  (.block 0 (.loop k37_b1)))
  (.seq (.ops [oP 71 (.bsl false 54 6 []), oP 72 (.bsl false 2 1 []), oP 73 (.build [.nils, .int .i64 0, .nils] [(0, 1, (.t 71)), (2, 1, (.t 72))]), oP 11 (.alloc [.nils, .int .i64 0, .nils]), ⟨none, none, .store 3 (.t 11) (.t 73)⟩])
  (.seq (.seq (.ops [oP 12 (.mv (iC 0))])
  (.block 4 (.loop k37_b3)))
  (.seq (.seq (.ops [oP 15 (.mv (iC 0))])
  (.block 8 (.loop k37_b4)))
  (.seq (.ops [oP 131 (.load true 3 (.t 11)), ⟨none, none, .store 3 (.t 2) (.t 131)⟩])
  .ret))))))))
theorem e37 : Ent 37 132 [1, 62, 110, 128] [.cell 2 true 3] k37 := ent Tryz.func37 (by kernel_rfl) (by kernel_rfl) (by kernel_rfl) (fun _ => by kernel_rfl) (by kernel_rfl)
end Go.Proofs.YtpihikppdeecmaaGreat
namespace Go.Proofs.YtpihikppdeecmaaGreat
open Go.Kv
set_option linter.unusedVariables false
set_option linter.unusedSimpArgs false
attribute [local irreducible] ACall PCall KL
theorem nmB_some {same : Nat → Nat → Bool} {i c : Nat} (h : ((nmB same i).1.findIdx? fun f => same f i) = some c) : nmB same (i + 1) = ((nmB same i).1, (nmB same i).2 ++ [c]) := by rw [nmB, h]
theorem nmB_none {same : Nat → Nat → Bool} {i : Nat} (h : ((nmB same i).1.findIdx? fun f => same f i) = none) : nmB same (i + 1) = ((nmB same i).1 ++ [i], (nmB same i).2 ++ [(nmB same i).1.length]) := by rw [nmB, h]
section
variable {K : PV → Heap → Prop}
/-- The loops behind the classes. -/
theorem ls_tail (fs : List (List Nat)) (n : Nat) (hf : ∀ f ∈ fs, Ok f n) (hn5 : n ≤ 5) (h0 : 0 < fs.length) (hfl : fs.length ≤ 1000) (q : Nat) (hq : q < n) (la : List Nat) (hla : ∀ x ∈ la, x < 5) (hL : la.length ≤ 1048576)
    (hK : K (.agg [.list (aggs ((lsM fs la q).map mp)), .int .i64 0, .list (ints (nz (lsL fs la q)))]) []) (σ : Heap) (i4 i5 v4 : Nat) (A : List Int) (env : Env)
    (u1 : Kv.look env 1 = .fptr [.list (aggs (fs.map mp)), .int .i64 q, .list (ints (nz la))] 0) (u2 : Kv.look env 2 = .ptr 0 0) (u4 : Kv.look env 4 = .ref i4 v4 0 (kF fs la q).length) (u5 : Kv.look env 5 = .ref i5 0 0 5)
    (hl : σ.length = 3) (s0 : σ[0]? = some (.box [.nils, .int .i64 0, .nils])) (s4 : σ[i4]? = some (.arr v4 2 1 (ints (nz ((kF fs la q).map fun c => (ord fs q).getD c 0))))) (s5 : σ[i5]? = some (.arr 0 2 1 (ints A))) (hA : A.length = 5)
    (hAv : ∀ t ∈ ord fs q, A.getD t 0 = ((kN fs la q).getD ((ord fs q).idxOf t) 0 : Int)) : vc (mkCfg Tryz.prog mixed [1, 62, 110, 128] 132 0) (drK 4 k37) (FinK 0 [.cell 2 true 3] K) env σ := by
  obtain ⟨o1, o2, o3, o4, o5, o6⟩ := ord_ok hf hn5 hq
  have hkF := kF_le fs la q
  have hkp := kF_pos (fs := fs) (la := la) (q := q) o5
  simp only [drK, tlK, k37]
  have hput3 : ∀ a b c d e f, putC [a, b, c] 0 [d, e, f] = [d, e, f] := fun a b c d e f => putC3 a b c d e f
  have hput0 : ∀ a b c d, putC [a, b, c] 0 [d] = [d, b, c] := fun a b c d => by unfold putC; first | rfl | (split <;> rfl) | simp
  have hput2 : ∀ a b c d, putC [a, b, c] 2 [d] = [a, b, d] := fun a b c d => by unfold putC; first | rfl | (split <;> rfl) | simp
  have l4 := (List.getElem?_eq_some_iff.1 s4).1
  have l5 := (List.getElem?_eq_some_iff.1 s5).1
  have ht5 : ∀ a b c, (σ ++ [a] ++ [b] ++ [c])[5]? = some c := fun a b c => by
    rw [List.getElem?_append_right (by simp; omega)]; simp [hl]
  have hs5 : ∀ (a b c d : AObj), (σ ++ [a] ++ [b] ++ [c]).set 5 d = σ ++ [a] ++ [b] ++ [d] := fun a b c d => by
    rw [List.set_append_right _ _ (by simp; omega)]; simp [hl]
  have e0 : ∀ a b c, (σ ++ [a] ++ [b] ++ [c])[0]? = some (.box [.nils, .int .i64 0, .nils]) := fun a b c => by
    rw [List.append_assoc, List.append_assoc, List.getElem?_append_left (by omega)]; exact s0
  have e4 : ∀ a b c, (σ ++ [a] ++ [b] ++ [c])[i4]? = σ[i4]? := fun a b c => by
    rw [List.append_assoc, List.append_assoc, List.getElem?_append_left l4]
  have e5 : ∀ a b c, (σ ++ [a] ++ [b] ++ [c])[i5]? = σ[i5]? := fun a b c => by
    rw [List.append_assoc, List.append_assoc, List.getElem?_append_left l5]
  have e34 : ∀ a b c, (σ ++ [a] ++ [b] ++ [c])[3]? = some a := fun a b c => by
    rw [List.append_assoc, List.append_assoc, List.getElem?_append_right (by omega)]; simp [hl]
  have e44 : ∀ a b c, (σ ++ [a] ++ [b] ++ [c])[4]? = some b := fun a b c => by
    rw [List.append_assoc, List.getElem?_append_right (by simp; omega)]; simp [hl]
  have e3l : ∀ (a b c : AObj), (σ ++ [a] ++ [b] ++ [c]).length = 6 := fun a b c => by simp [hl]
  try simp only [OpK_eq, HKv, u1, u2, u4, u5, hl, ht5, hs5, hput3, go_sem]
  have hFl : (nz ((kF fs la q).map fun c => (ord fs q).getD c 0)).length = (kF fs la q).length := by rw [nz_len, List.length_map]
  refine KL_ind k37_b3.eq_1 (fun x : Nat × Heap => [(1, .fptr [.list (aggs (fs.map mp)), .int .i64 q, .list (ints (nz la))] 0), (2, .ptr 0 0), (4, .ref i4 v4 0 (kF fs la q).length), (5, .ref i5 0 0 5), (11, .ptr 5 0), (12, .int .i64 x.1)]) (fun x => x.2)
    (fun x => x.1 ≤ fs.length ∧ x.2[0]? = some (.box [.nils, .int .i64 0, .nils]) ∧ x.2[i4]? = some (.arr v4 2 1 (ints (nz ((kF fs la q).map fun c => (ord fs q).getD c 0)))) ∧ x.2[i5]? = some (.arr 0 2 1 (ints A)) ∧ x.2[3]? = some (.arr x.1 54 6 (aggs ((fs.take x.1).map fun f => mp (lsR fs la q f)))) ∧ x.2[4]? = some (.arr 0 2 1 []) ∧ x.2[5]? = some (.box [.ref 3 x.1 0 x.1, .int .i64 0, .ref 4 0 0 0])) (fun x => fs.length - x.1) [1, 2, 4, 5, 11, 12]
    (0, _) (by simp [keep, u1, u2, u4, u5]) rfl ⟨Nat.zero_le _, e0 _ _ _, (e4 _ _ _).trans s4, (e5 _ _ _).trans s5, e34 _ _ _, e44 _ _ _, ht5 _ _ _⟩ fun ⟨x, τ⟩ ⟨hx, t0, t4, t5, t3, t44, t55⟩ ih => ?_
  simp only at hx t0 t4 t5 t3 t44 t55
  have tl := (List.getElem?_eq_some_iff.1 t55).1
  try simp only [OpK_eq, HKv, List.length_map, go_sem]
  refine ⟨fun g1 => ?_, fun g1 => ?_⟩
  · have hxl : x < fs.length := by omega
    have hfx := hf _ (List.getElem_mem hxl)
    have h6 := hfx.mp_len
    have ht0 : ∀ (a : AObj), (τ ++ [a])[τ.length]? = some a := fun a => by simp
    have hs0 : ∀ (a z : AObj), (τ ++ [a]).set τ.length z = τ ++ [z] := fun a z => by
      rw [List.set_append_right _ _ (Nat.le_refl _)]; simp
    have hRl : (lsR fs la q fs[x]).length = (kF fs la q).length := by simp [lsR]
    have hlt : ∀ (Y : Heap) id, id < 6 → (τ ++ Y)[id]? = τ[id]? := fun Y id hid => List.getElem?_append_left (by omega)
    try simp only [OpK_eq, HKv, ht0, hs0, t4, hFl, go_sem]
    refine KL_ind k37_b2.eq_1 (fun c : Nat => [(1, .fptr [.list (aggs (fs.map mp)), .int .i64 q, .list (ints (nz la))] 0), (2, .ptr 0 0), (4, .ref i4 v4 0 (kF fs la q).length), (5, .ref i5 0 0 5), (11, .ptr 5 0), (12, .int .i64 x), (13, .ptr τ.length 0), (14, .int .i64 c)]) (fun c => τ ++ [.box (ints (mpN (kF fs la q).length ((lsR fs la q fs[x]).take c)))])
      (fun c => c ≤ (kF fs la q).length) (fun c => (kF fs la q).length - c) [1, 2, 4, 5, 11, 12, 13, 14] 0 (by simp [keep]) rfl (Nat.zero_le _) fun c hc ihc => ?_
    have f4 : ∀ Y, (τ ++ Y)[i4]? = some (.arr v4 2 1 (ints (nz ((kF fs la q).map fun c => (ord fs q).getD c 0)))) := fun Y => (hlt Y i4 (by omega)).trans t4
    have f5 : ∀ Y, (τ ++ Y)[i5]? = some (.arr 0 2 1 (ints A)) := fun Y => (hlt Y i5 (by omega)).trans t5
    have f3 : ∀ Y, (τ ++ Y)[3]? = some (.arr x 54 6 (aggs ((fs.take x).map fun f => mp (lsR fs la q f)))) := fun Y => (hlt Y 3 (by omega)).trans t3
    have f55 : ∀ Y, (τ ++ Y)[5]? = some (.box [.ref 3 x 0 x, .int .i64 0, .ref 4 0 0 0]) := fun Y => (hlt Y 5 (by omega)).trans t55
    have h6R : (mpN ((kF fs la q).length : Int) ((lsR fs la q fs[x]).take c)).length = 6 := mpN_length (by simp; omega)
    try simp only [OpK_eq, HKv, f4, go_sem]
    refine ⟨fun g3 => ?_, fun g3 => ?_⟩
    · have hcl : c < (kF fs la q).length := by omega
      obtain ⟨k1, k2, k3⟩ := kF_one (fs := fs) (la := la) (q := q) hcl
      have hfg : (nz ((kF fs la q).map fun c => (ord fs q).getD c 0)).getD c 0 = ((ord fs q).getD (kF fs la q)[c] 0 : Int) := by
        simp [nz, List.getD_eq_getElem?_getD, hcl]
      have hto : fs[x].getD ((ord fs q).getD (kF fs la q)[c] 0) 0 ∈ ord fs q := o4 _ (List.getElem_mem hxl) _ (by
        rw [List.getD_eq_getElem?_getD, List.getElem?_eq_getElem k1]; exact List.getElem_mem k1)
      have hoo : (ord fs q).getD (kF fs la q)[c] 0 < n := o1 _ (by
        rw [List.getD_eq_getElem?_getD, List.getElem?_eq_getElem k1]; exact List.getElem_mem k1)
      have hRc : (lsR fs la q fs[x]).take (c + 1) = (lsR fs la q fs[x]).take c ++ [(kN fs la q).getD ((ord fs q).idxOf (fs[x].getD ((ord fs q).getD (kF fs la q)[c] 0) 0)) 0] := by
        rw [List.take_succ_eq_append_getElem (by omega)]
        simp [lsR]
      have hAt := hAv _ hto
      have htn := o1 _ hto
      have hgk : (fs.map mp).getD x [] = mp fs[x] := by simp [List.getD_eq_getElem?_getD, hxl]
      generalize (kF fs la q)[c] = kc at *
      generalize (ord fs q).getD kc 0 = o at *
      have hot : (o : Int).toNat = o := by omega
      have htt : ((fs[x].getD o 0 : Nat) : Int).toNat = fs[x].getD o 0 := by omega
      have hfl' : (nz ((kF fs la q).map fun c => (ord fs q).getD c 0)).length = (kF fs la q).length := hFl
      try simp only [OpK_eq, HKv, f4, f5, ht0, hs0, h6, hfg, hot, hgk, List.length_map, htt, hA, hAt, h6R, hFl, go_sem]
      refine ⟨⟨by omega, Nat.le_refl _⟩, hcl, fun _ => ⟨by omega, fun _ => ⟨by omega, by omega, fun _ => ⟨by omega, by omega, fun _ => ⟨by omega, by omega, by omega, ihc (c + 1) (by omega) (by omega) _ _ (by simp [keep]) ?_⟩⟩⟩⟩⟩
      rw [hRc, mpN_pushI (by simp; omega) (by simp; omega)]
    · have hce : c = (kF fs la q).length := by omega
      subst hce
      have hRt : (lsR fs la q fs[x]).take (kF fs la q).length = lsR fs la q fs[x] := List.take_of_length_le (Nat.le_of_eq hRl)
      have hRm : mpN ((kF fs la q).length : Int) (lsR fs la q fs[x]) = mp (lsR fs la q fs[x]) := by rw [mp, hRl]
      rw [hRt, hRm] at *
      have h6m : (mp (lsR fs la q fs[x])).length = 6 := mpN_length (by omega)
      have h6t : (mp (lsR fs la q fs[x])).take 6 = mp (lsR fs la q fs[x]) := List.take_of_length_le (Nat.le_of_eq h6m)
      have hLx : ((fs.take x).map fun f => mp (lsR fs la q f)).length = x := by simp; omega
      have hLt : ((fs.take x).map fun f => mp (lsR fs la q f)).take x = (fs.take x).map fun f => mp (lsR fs la q f) := List.take_of_length_le (Nat.le_of_eq hLx)
      have g5 : ∀ o, ((τ ++ [AObj.box (ints (mp (lsR fs la q fs[x])))]).set 3 o)[5]? = some (.box [.ref 3 x 0 x, .int .i64 0, .ref 4 0 0 0]) := fun o => (List.getElem?_set_ne (by decide)).trans (f55 _)
      try simp only [OpK_eq, HKv, f55, f3, ht0, h6R, h6m, h6t, g5, hput0, hLx, hLt, go_sem]
      have hsx : (fs.take (x + 1)).map (fun f => mp (lsR fs la q f)) = (fs.take x).map (fun f => mp (lsR fs la q f)) ++ [mp (lsR fs la q fs[x])] := by
        rw [List.take_succ_eq_append_getElem hxl, List.map_append]; rfl
      rw [← hsx]
      generalize hb : AObj.box (ints (mp (lsR fs la q fs[x]))) = bx at *
      refine ⟨⟨by omega, by omega⟩, by omega, ih (x + 1, ((τ ++ [bx]).set 3 _).set 5 _) ⟨by show x + 1 ≤ fs.length; omega, ?_, ?_, ?_, ?_, ?_, ?_⟩ (by show fs.length - (x + 1) < fs.length - x; omega) _ _ (by simp [keep]) rfl⟩
      · exact (List.getElem?_set_ne (by decide)).trans ((List.getElem?_set_ne (by decide)).trans ((hlt _ 0 (by decide)).trans t0))
      · exact (List.getElem?_set_ne (by omega)).trans ((List.getElem?_set_ne (by omega)).trans (f4 _))
      · exact (List.getElem?_set_ne (by omega)).trans ((List.getElem?_set_ne (by omega)).trans (f5 _))
      · exact (List.getElem?_set_ne (by decide)).trans (List.getElem?_set_self (by simp; omega))
      · exact (List.getElem?_set_ne (by decide)).trans ((List.getElem?_set_ne (by decide)).trans ((hlt _ 4 (by decide)).trans t44))
      · exact List.getElem?_set_self (by simp; omega)
  · have hxe : x = fs.length := by omega
    subst hxe
    rw [List.take_length] at t3
    have hMe : (fs.map fun f => mp (lsR fs la q f)) = (lsM fs la q).map mp := by
      unfold lsM lsR
      rw [List.map_map]; rfl
    rw [hMe] at t3
    have hMl : fs.length = ((lsM fs la q).map mp).length := by rw [← hMe]; simp
    try simp only [OpK_eq, HKv, go_sem]
    refine KL_ind k37_b4.eq_1 (fun x : Nat × Nat × Heap => [(1, .fptr [.list (aggs (fs.map mp)), .int .i64 q, .list (ints (nz la))] 0), (2, .ptr 0 0), (4, .ref i4 v4 0 (kF fs la q).length), (11, .ptr 5 0), (15, .int .i64 x.1)]) (fun x => x.2.2)
      (fun x => x.1 ≤ (kF fs la q).length ∧ x.2.2[0]? = some (.box [.nils, .int .i64 0, .nils]) ∧ x.2.2[i4]? = some (.arr v4 2 1 (ints (nz ((kF fs la q).map fun c => (ord fs q).getD c 0)))) ∧ x.2.2[3]? = some (.arr fs.length 54 6 (aggs ((lsM fs la q).map mp))) ∧ x.2.1 = ((List.range x.1).filter fun c => decide ((ord fs q).getD ((kF fs la q).getD c 0) 0 ∈ la)).length ∧ x.2.2[4]? = some (.arr x.2.1 2 1 (ints (nz ((List.range x.1).filter fun c => decide ((ord fs q).getD ((kF fs la q).getD c 0) 0 ∈ la))))) ∧ x.2.2[5]? = some (.box [.ref 3 fs.length 0 fs.length, .int .i64 0, .ref 4 x.2.1 0 x.2.1])) (fun x => (kF fs la q).length - x.1) [1, 2, 4, 11, 15]
      (0, 0, τ) (by simp [keep]) rfl ⟨Nat.zero_le _, t0, t4, t3, rfl, t44, t55⟩ fun ⟨c, m, ρ⟩ ⟨hc, r0, r4, r3, hm, r44, r55⟩ ihc => ?_
    simp only at hc r0 r4 r3 hm r44 r55
    have rl := (List.getElem?_eq_some_iff.1 r55).1
    try simp only [OpK_eq, HKv, r4, hFl, go_sem]
    refine ⟨fun g3 => ?_, fun g3 => ?_⟩
    · have hcl : c < (kF fs la q).length := by omega
      obtain ⟨k1, k2, k3⟩ := kF_one (fs := fs) (la := la) (q := q) hcl
      have hfg : (nz ((kF fs la q).map fun c => (ord fs q).getD c 0)).getD c 0 = ((ord fs q).getD (kF fs la q)[c] 0 : Int) := by
        simp [nz, List.getD_eq_getElem?_getD, hcl]
      have hoo : (ord fs q).getD (kF fs la q)[c] 0 < n := o1 _ (by
        rw [List.getD_eq_getElem?_getD, List.getElem?_eq_getElem k1]; exact List.getElem_mem k1)
      have hfl : (List.range (c + 1)).filter (fun c => decide ((ord fs q).getD ((kF fs la q).getD c 0) 0 ∈ la)) = (List.range c).filter (fun c => decide ((ord fs q).getD ((kF fs la q).getD c 0) 0 ∈ la)) ++ if decide ((ord fs q).getD (kF fs la q)[c] 0 ∈ la) = true then [c] else [] := by
        have e : (kF fs la q).getD c 0 = (kF fs la q)[c] := by rw [List.getD_eq_getElem?_getD, List.getElem?_eq_getElem hcl]; rfl
        rw [List.range_succ, List.filter_append, List.filter_cons, e]
        simp only [List.filter_nil]
      have hNl : ((List.range c).filter fun c => decide ((ord fs q).getD ((kF fs la q).getD c 0) 0 ∈ la)).length ≤ c := by
        have := List.length_filter_le (fun c => decide ((ord fs q).getD ((kF fs la q).getD c 0) 0 ∈ la)) (List.range c)
        simpa using this
      generalize (kF fs la q)[c] = kc at *
      generalize (ord fs q).getD kc 0 = o at *
      generalize hFe : (List.range c).filter (fun c => decide ((ord fs q).getD ((kF fs la q).getD c 0) 0 ∈ la)) = F at *
      subst hm
      try simp only [OpK_eq, HKv, r4, hFl, hfg, subC3, go_sem]
      refine ⟨⟨by omega, Nat.le_refl _⟩, hcl, fun _ => ?_⟩
      refine (p84 (fs.map mp) q la hla hL o (by omega)).pgo ?_
      cases hd : decide (o ∈ la) with
      | false =>
        rw [hd, if_neg (by simp), List.append_nil] at hfl
        try simp only [OpK_eq, HKv, go_sem]
        refine ⟨by omega, ihc (c + 1, F.length, ρ) ⟨by show c + 1 ≤ _; omega, r0, r4, r3, ?_, ?_, r55⟩ (by show _ - (c + 1) < _ - c; omega) _ _ (by simp [keep]) rfl⟩
        · show F.length = ((List.range (c + 1)).filter _).length
          rw [hfl]
        · show ρ[4]? = some (.arr F.length 2 1 (ints (nz ((List.range (c + 1)).filter _))))
          rw [hfl]; exact r44
      | true =>
        rw [hd, if_pos rfl] at hfl
        have hzl : (nz F).length = F.length := nz_len F
        have hzt : (nz F).take F.length = nz F := List.take_of_length_le (Nat.le_of_eq hzl)
        have g5 : ∀ o, (ρ.set 4 o)[5]? = some (.box [.ref 3 fs.length 0 fs.length, .int .i64 0, .ref 4 F.length 0 F.length]) := fun o => (List.getElem?_set_ne (by decide)).trans r55
        try simp only [OpK_eq, HKv, r55, r44, g5, hput2, hzl, hzt, go_sem]
        have e : nz F ++ [(c : Int)] = nz (F ++ [c]) := by simp [nz]
        rw [e]
        refine ⟨⟨Nat.le_refl _, by omega⟩, by omega, ihc (c + 1, F.length + 1, (ρ.set 4 _).set 5 _) ⟨by show c + 1 ≤ _; omega, ?_, ?_, ?_, ?_, ?_, ?_⟩ (by show _ - (c + 1) < _ - c; omega) _ _ (by simp [keep]) rfl⟩
        · exact (List.getElem?_set_ne (by decide)).trans ((List.getElem?_set_ne (by decide)).trans r0)
        · exact (List.getElem?_set_ne (by omega)).trans ((List.getElem?_set_ne (by omega)).trans r4)
        · exact (List.getElem?_set_ne (by decide)).trans ((List.getElem?_set_ne (by decide)).trans r3)
        · show F.length + 1 = ((List.range (c + 1)).filter _).length
          rw [hfl]; simp
        · show _ = some (AObj.arr (F.length + 1) 2 1 (ints (nz ((List.range (c + 1)).filter _))))
          rw [hfl]
          exact (List.getElem?_set_ne (by decide)).trans (List.getElem?_set_self (by omega))
        · exact List.getElem?_set_self (by simp; omega)
    · have hce : c = (kF fs la q).length := by omega
      subst hce
      have hlL : (List.range (kF fs la q).length).filter (fun c => decide ((ord fs q).getD ((kF fs la q).getD c 0) 0 ∈ la)) = lsL fs la q := rfl
      rw [hlL] at hm r44
      have r0l := (List.getElem?_eq_some_iff.1 r0).1
      have hself : ∀ o, (ρ.set 0 o)[0]? = some o := fun o => List.getElem?_set_self r0l
      try simp only [OpK_eq, HKv, r55, r0, hself, subC3, hput3, go_sem]
      refine Kv.Fin.freeze (v' := .agg [.list (aggs ((lsM fs la q).map mp)), .int .i64 0, .list (ints (nz (lsL fs la q)))]) (.agg _ _ (by simp) (by simp [PV.ok]) fun i c d hc hd => ?_) hK
      rcases i with _ | _ | _ | i
      · simp only [List.getElem?_cons_zero, Option.some.injEq] at hc hd; subst hc; subst hd
        have := Imm.refa (σ := ρ.set 0 (.box [.ref 3 fs.length 0 fs.length, .int .i64 0, .ref 4 m 0 m])) (id := 3) ((List.getElem?_set_ne (by decide)).trans r3)
        rw [← hMl] at this
        exact this
      · simp only [List.getElem?_cons_succ, List.getElem?_cons_zero, Option.some.injEq] at hc hd; subst hc; subst hd
        exact .int _ _ _
      · simp only [List.getElem?_cons_succ, List.getElem?_cons_zero, Option.some.injEq] at hc hd; subst hc; subst hd
        exact Imm.refn ((List.getElem?_set_ne (by decide)).trans r44) (by rw [nz_len, hm])
      · simp at hc
theorem ls_mid (fs : List (List Nat)) (n : Nat) (hf : ∀ f ∈ fs, Ok f n) (hn5 : n ≤ 5) (h0 : 0 < fs.length) (hfl : fs.length ≤ 1000) (q : Nat) (hq : q < n) (la : List Nat) (hla : ∀ x ∈ la, x < 5) (hL : la.length ≤ 1048576)
    (hK : K (.agg [.list (aggs ((lsM fs la q).map mp)), .int .i64 0, .list (ints (nz (lsL fs la q)))]) []) (σ : Heap) (i4 i5 : Nat) (env : Env)
    (u1 : Kv.look env 1 = .fptr [.list (aggs (fs.map mp)), .int .i64 q, .list (ints (nz la))] 0) (u2 : Kv.look env 2 = .ptr 0 0) (u3 : Kv.look env 3 = .list (ints (nz (ord fs q)))) (u4 : Kv.look env 4 = .ref i4 0 0 0) (u5 : Kv.look env 5 = .ref i5 0 0 5)
    (hl : σ.length = 3) (s0 : σ[0]? = some (.box [.nils, .int .i64 0, .nils])) (s4 : σ[i4]? = some (.arr 0 2 1 [])) (s5 : σ[i5]? = some (.arr 0 2 1 (List.replicate 5 (.int .i64 0)))) (h45 : i4 ≠ i5) (h04 : i4 ≠ 0) (h05 : i5 ≠ 0) : vc (mkCfg Tryz.prog mixed [1, 62, 110, 128] 132 0) (drK 3 k37) (FinK 0 [.cell 2 true 3] K) env σ := by
  obtain ⟨o1, o2, o3, o4, o5, o6⟩ := ord_ok hf hn5 hq
  have htail := ls_tail fs n hf hn5 h0 hfl q hq la hla hL hK
  rw [show drK 3 k37 = upK 1 (drK 3 k37) (drK 4 k37) from rfl]
  generalize drK 4 k37 = t at htail ⊢
  simp only [upK, hdK, drK, tlK, k37]
  have hon := nz_len (ord fs q)
  have hfst := nm_first (fun i k => smB fs la ((ord fs q).getD i 0) ((ord fs q).getD k 0))
  have hap : ∀ i k, i < (ord fs q).length → k < (ord fs q).length → _ := fun i k hi hk => p52 fs fs n n hf hf h0 rfl hfl hn5 hn5 la la hla hla hL hL q q ((ord fs q).getD i 0) ((ord fs q).getD k 0) (o1 _ (by rw [List.getD_eq_getElem?_getD, List.getElem?_eq_getElem hi]; exact List.getElem_mem hi)) (o1 _ (by rw [List.getD_eq_getElem?_getD, List.getElem?_eq_getElem hk]; exact List.getElem_mem hk))
  have hsm : ∀ i k, i < (ord fs q).length → k < (ord fs q).length → smB fs la ((ord fs q).getD i 0) ((ord fs q).getD k 0) = (fwp fs fs la la ((ord fs q).getD i 0) ((ord fs q).getD k 0)).isNone := fun i k hi hk => fwp_smB hf (o1 _ (by rw [List.getD_eq_getElem?_getD, List.getElem?_eq_getElem hi]; exact List.getElem_mem hi)) (o1 _ (by rw [List.getD_eq_getElem?_getD, List.getElem?_eq_getElem hk]; exact List.getElem_mem hk)) hn5
  have hkF : kF fs la q = (nmB (fun i k => smB fs la ((ord fs q).getD i 0) ((ord fs q).getD k 0)) (ord fs q).length).1 := rfl
  have hkN : kN fs la q = (nmB (fun i k => smB fs la ((ord fs q).getD i 0) ((ord fs q).getD k 0)) (ord fs q).length).2 := rfl
  generalize hS : (fun i k => smB fs la ((ord fs q).getD i 0) ((ord fs q).getD k 0)) = sm at *
  have hsm2 : ∀ i k, i < (ord fs q).length → k < (ord fs q).length → sm i k = (fwp fs fs la la ((ord fs q).getD i 0) ((ord fs q).getD k 0)).isNone := fun i k hi hk => by rw [← hS]; exact hsm i k hi hk
  clear hsm
  have hs1 := fun i c => nmB_some (same := sm) (i := i) (c := c)
  have hs2 := fun i => nmB_none (same := sm) (i := i)
  try simp only [OpK_eq, HKv, u1, u2, u3, u4, u5, go_sem]
  refine KL_ind k37_b1.eq_1 (fun x : Nat × List Int × Heap => [(1, .fptr [.list (aggs (fs.map mp)), .int .i64 q, .list (ints (nz la))] 0), (2, .ptr 0 0), (3, .list (ints (nz (ord fs q)))), (4, .ref i4 (nmB sm x.1).1.length 0 (nmB sm x.1).1.length), (5, .ref i5 0 0 5), (6, .int .i64 x.1)]) (fun x => x.2.2)
    (fun x => x.1 ≤ (ord fs q).length ∧ x.2.2.length = 3 ∧ x.2.2[0]? = some (.box [.nils, .int .i64 0, .nils]) ∧ x.2.2[i4]? = some (.arr (nmB sm x.1).1.length 2 1 (ints (nz ((nmB sm x.1).1.map fun c => (ord fs q).getD c 0)))) ∧ x.2.2[i5]? = some (.arr 0 2 1 (ints x.2.1)) ∧ x.2.1.length = 5 ∧ ∀ j, j < x.1 → x.2.1.getD ((ord fs q).getD j 0) 0 = ((nmB sm x.1).2.getD j 0 : Int)) (fun x => (ord fs q).length - x.1) [1, 2, 3, 4, 5, 6]
    (0, List.replicate 5 0, σ) (by simp [keep, u1, u2, u3, u4, u5, nmB]) rfl ⟨Nat.zero_le _, hl, s0, s4, s5, by simp, fun j h => by omega⟩ fun ⟨i, A, τ⟩ ⟨hi, tl, t0, t4, t5, hA, hAv⟩ ih => ?_
  simp only at hi tl t0 t4 t5 hA hAv
  have l4 := (List.getElem?_eq_some_iff.1 t4).1
  have l5 := (List.getElem?_eq_some_iff.1 t5).1
  have hfi := hfst i
  have hs1 := hs1 i
  have hs2 := hs2 i
  generalize hN : nmB sm i = N at *
  obtain ⟨F, B⟩ := N
  simp only at t4 hAv hs1 hs2 ⊢
  have hFl : (nz (F.map fun c => (ord fs q).getD c 0)).length = F.length := by rw [nz_len, List.length_map]
  try simp only [OpK_eq, HKv, hon, go_sem]
  refine ⟨fun g1 => ?_, fun g1 => ?_⟩
  · have hil : i < (ord fs q).length := by omega
    have hFi : ∀ c (h : c < F.length), F[c] < i := fun c h => (hfi.one c F[c] (by rw [hN]; exact List.getElem?_eq_getElem h)).1
    have hFle : F.length ≤ i := by have := hfi.le; rw [hN] at this; exact this
    have hBl : B.length = i := by have := hfi.len; rw [hN] at this; exact this
    have hBlt : ∀ j, j < i → B.getD j 0 < F.length := fun j hj => by have := hfi.lt j hj; rw [hN] at this; exact this
    have hog : (nz (ord fs q)).getD i 0 = ((ord fs q).getD i 0 : Int) := by simp [nz, List.getD_eq_getElem?_getD, hil]
    refine KL_ind k37_b0.eq_1 (fun x : Nat × Int => [(1, .fptr [.list (aggs (fs.map mp)), .int .i64 q, .list (ints (nz la))] 0), (2, .ptr 0 0), (3, .list (ints (nz (ord fs q)))), (4, .ref i4 F.length 0 F.length), (5, .ref i5 0 0 5), (6, .int .i64 i), (7, .int .i64 x.2), (8, .int .i64 x.1)]) (fun _ => τ)
      (fun x => x.1 ≤ F.length ∧ ((x.2 = -1 ∧ ∀ j (h : j < F.length), j < x.1 → sm F[j] i = false) ∨ ∃ j, x.2 = (j : Nat) ∧ x.1 = j + 1 ∧ (F.findIdx? fun f => sm f i) = some j)) (fun x => F.length - x.1) [1, 2, 3, 4, 5, 6, 7, 8] (0, -1) (by simp [keep]) rfl ⟨Nat.zero_le _, .inl ⟨rfl, fun j _ h => by omega⟩⟩ fun ⟨k, own⟩ ⟨hk, hor⟩ ihk => ?_
    simp only at hk hor
    have hoi : (ord fs q).getD i 0 < n := o1 _ (by rw [List.getD_eq_getElem?_getD, List.getElem?_eq_getElem hil]; exact List.getElem_mem hil)
    have hset : ∀ v : Nat, ∀ j, j < i + 1 → (A.set ((ord fs q).getD i 0) (v : Int)).getD ((ord fs q).getD j 0) 0 = ((B ++ [v]).getD j 0 : Int) := fun v j hj => by
      by_cases e : j = i
      · subst e
        rw [List.getD_eq_getElem?_getD, List.getElem?_set_self (by omega), List.getD_eq_getElem?_getD, List.getElem?_append_right (by omega), hBl]
        simp
      · have hji : j < i := by omega
        have hne : (ord fs q).getD i 0 ≠ (ord fs q).getD j 0 := fun h => by
          rw [List.getD_eq_getElem?_getD, List.getD_eq_getElem?_getD, List.getElem?_eq_getElem hil, List.getElem?_eq_getElem (by omega)] at h
          have := (List.nodup_iff_pairwise_ne.1 o2)
          exact List.pairwise_iff_getElem.1 this j i (by omega) hil hji h.symm
        rw [List.getD_eq_getElem?_getD, List.getElem?_set_ne hne, ← List.getD_eq_getElem?_getD, hAv j hji, List.getD_eq_getElem?_getD, List.getD_eq_getElem?_getD, List.getElem?_append_left (by omega)]
    have hoit : (((ord fs q).getD i 0 : Nat) : Int).toNat = (ord fs q).getD i 0 := by omega
    rcases hor with ⟨rfl, hno⟩ | ⟨j, rfl, rfl, hfd⟩
    · try simp only [OpK_eq, HKv, t4, hFl, go_sem]
      refine ⟨fun g2 => ?_, fun g2 => ?_⟩
      · have hkF' : k < F.length := by omega
        have hfk := hFi k hkF'
        have hfg : (nz (F.map fun c => (ord fs q).getD c 0)).getD k 0 = ((ord fs q).getD F[k] 0 : Int) := by
          simp [nz, List.getD_eq_getElem?_getD, hkF']
        have hapk := hap F[k] i (by omega) hil
        have hsk := hsm2 F[k] i (by omega) hil
        generalize fwp fs fs la la ((ord fs q).getD F[k] 0) ((ord fs q).getD i 0) = o at hapk hsk
        try simp only [OpK_eq, HKv, t4, hFl, hfg, hog, hon, subC3, go_sem]
        refine ⟨⟨by omega, Nat.le_refl _⟩, hkF', fun _ => ⟨by omega, fun _ => ?_⟩⟩
        cases o with
        | none =>
          simp only [apW] at hapk
          refine hapk.fgo ?_
          try simp only [OpK_eq, HKv, go_sem]
          refine ⟨by omega, ihk (k + 1, (k : Int)) ⟨by show k + 1 ≤ F.length; omega, .inr ⟨k, rfl, rfl, ?_⟩⟩ (by show F.length - (k + 1) < F.length - k; omega) _ _ (by simp [keep]) rfl⟩
          rw [List.findIdx?_eq_some_iff_getElem]
          exact ⟨hkF', by rw [hsk]; rfl, fun j hj => by rw [hno j (by omega) hj]; simp⟩
        | some w =>
          simp only [apW] at hapk
          refine hapk.fgo ?_
          try simp only [OpK_eq, HKv, go_sem]
          refine ⟨by omega, ihk (k + 1, -1) ⟨by show k + 1 ≤ F.length; omega, .inl ⟨rfl, fun j hj hjk => ?_⟩⟩ (by show F.length - (k + 1) < F.length - k; omega) _ _ (by simp [keep]) rfl⟩
          by_cases e : j = k
          · subst e; rw [hsk]; rfl
          · exact hno j hj (by have : j < k + 1 := hjk; omega)
      · have hfd : (F.findIdx? fun f => sm f i) = none := by
          rw [List.findIdx?_eq_none_iff]
          intro f hf'
          obtain ⟨j, hj, rfl⟩ := List.getElem_of_mem hf'
          exact hno j hj (by omega)
        have hsucc := hs2 hfd
        have hzt : (nz (F.map fun c => (ord fs q).getD c 0)).take F.length = nz (F.map fun c => (ord fs q).getD c 0) := List.take_of_length_le (Nat.le_of_eq hFl)
        have e5 : ∀ o, (τ.set i4 o)[i5]? = some (.arr 0 2 1 (ints A)) := fun o => (List.getElem?_set_ne h45).trans t5
        have hze : nz (F.map fun c => (ord fs q).getD c 0) ++ [((ord fs q).getD i 0 : Int)] = nz ((F ++ [i]).map fun c => (ord fs q).getD c 0) := by simp [nz]
        try simp only [OpK_eq, HKv, hon, hog, hzt, e5, hoit, hA, hze, go_sem]
        refine ⟨by omega, fun _ => ⟨⟨Nat.le_refl _, by omega⟩, by omega, fun _ => ⟨by omega, by omega, fun _ => ⟨by omega, ih (i + 1, A.set ((ord fs q).getD i 0) (F.length : Nat), (τ.set i4 _).set i5 _) ⟨by show i + 1 ≤ _; omega, ?_, ?_, ?_, ?_, ?_, ?_⟩ (by show _ - (i + 1) < _ - i; omega) _ _ ?_ rfl⟩⟩⟩⟩
        · show ((τ.set i4 _).set i5 _).length = 3
          rw [List.length_set, List.length_set, tl]
        · exact (List.getElem?_set_ne h05).trans ((List.getElem?_set_ne h04).trans t0)
        · show _ = some (AObj.arr (nmB sm (i + 1)).1.length 2 1 (ints (nz ((nmB sm (i + 1)).1.map fun c => (ord fs q).getD c 0))))
          rw [hsucc, List.length_append, List.length_singleton]
          exact (List.getElem?_set_ne (Ne.symm h45)).trans (List.getElem?_set_self l4)
        · exact List.getElem?_set_self (by rw [List.length_set]; exact l5)
        · show (A.set _ _).length = 5
          rw [List.length_set, hA]
        · show ∀ j, j < i + 1 → (A.set ((ord fs q).getD i 0) (F.length : Nat)).getD ((ord fs q).getD j 0) 0 = ((nmB sm (i + 1)).2.getD j 0 : Int)
          rw [hsucc]; exact hset F.length
        · rw [hsucc]; simp [keep]
    · have hj0 : ((j : Int) < 0) = False := eq_false (by omega)
      have hsucc := hs1 j hfd
      try simp only [OpK_eq, HKv, t4, hFl, hj0, decide_false, hon, hog, hoit, t5, hA, go_sem]
      have hgo : ∀ env, keep [1, 2, 3, 4, 5, 6] env = [(1, .fptr [.list (aggs (fs.map mp)), .int .i64 q, .list (ints (nz la))] 0), (2, .ptr 0 0), (3, .list (ints (nz (ord fs q)))), (4, .ref i4 F.length 0 F.length), (5, .ref i5 0 0 5), (6, .int .i64 (i + 1 : Nat))] →
          KL (mkCfg Tryz.prog mixed [1, 62, 110, 128] 132 0) k37_b1 (BlockK 0 (SK (mkCfg Tryz.prog mixed [1, 62, 110, 128] 132 0) t (FinK 0 [KR.cell 2 true 3] K))) env (τ.set i5 (.arr 0 2 1 (ints (A.set ((ord fs q).getD i 0) (j : Nat))))) := fun env he =>
        ih (i + 1, A.set ((ord fs q).getD i 0) (j : Nat), τ.set i5 _) ⟨by show i + 1 ≤ _; omega, by show (τ.set i5 _).length = 3; rw [List.length_set, tl], (List.getElem?_set_ne h05).trans t0, by
          show _ = some (AObj.arr (nmB sm (i + 1)).1.length 2 1 (ints (nz ((nmB sm (i + 1)).1.map fun c => (ord fs q).getD c 0))))
          rw [hsucc]
          exact (List.getElem?_set_ne (Ne.symm h45)).trans t4, List.getElem?_set_self l5, by show (A.set _ _).length = 5; rw [List.length_set, hA], by
          show ∀ j', j' < i + 1 → (A.set ((ord fs q).getD i 0) (j : Nat)).getD ((ord fs q).getD j' 0) 0 = ((nmB sm (i + 1)).2.getD j' 0 : Int)
          rw [hsucc]; exact hset j⟩ (by show _ - (i + 1) < _ - i; omega) env _ (by rw [he, hsucc]) rfl
      refine ⟨fun _ => ⟨by omega, fun _ => ⟨by omega, by omega, fun _ => ⟨by omega, hgo _ (by simp [keep])⟩⟩⟩, fun _ => ⟨by omega, fun _ => ⟨by omega, by omega, fun _ => ⟨by omega, hgo _ (by simp [keep])⟩⟩⟩⟩
  · have hie : i = (ord fs q).length := by omega
    subst hie
    rw [hN] at hkF hkN
    simp only at hkF hkN
    rw [← hkF] at *
    rw [← hkN] at *
    try simp only [OpK_eq, HKv, go_sem]
    refine htail τ i4 i5 _ A _ (by simp) (by simp) (by simp) (by simp) tl t0 t4 t5 hA fun t ht => ?_
    have hti := List.idxOf_lt_length_iff.2 ht
    have := hAv _ hti
    rwa [show (ord fs q).getD ((ord fs q).idxOf t) 0 = t by rw [List.getD_eq_getElem?_getD, List.getElem?_eq_getElem hti]; simp] at this
end
theorem p37 (fs : List (List Nat)) (n : Nat) (hf : ∀ f ∈ fs, Ok f n) (hn5 : n ≤ 5) (h0 : 0 < fs.length) (hfl : fs.length ≤ 1000) (q : Nat) (hq : q < n) (la : List Nat) (hla : ∀ x ∈ la, x < 5) (hL : la.length ≤ 1048576) :
    Pure Tryz.prog 37 [.agg [.list (aggs (fs.map mp)), .int .i64 q, .list (ints (nz la))]] (.agg [.list (aggs ((lsM fs la q).map mp)), .int .i64 0, .list (ints (nz (lsL fs la q)))]) := by
  have hmid := ls_mid (K := fun v s => v = .agg [.list (aggs ((lsM fs la q).map mp)), .int .i64 0, .list (ints (nz (lsL fs la q)))] ∧ s = []) fs n hf hn5 h0 hfl q hq la hla hL ⟨rfl, rfl⟩
  refine e37 (by simp) fun _ _ => ?_
  rw [show k37 = upK 3 k37 (drK 3 k37) from rfl]
  generalize drK 3 k37 = t at hmid ⊢
  simp only [upK, hdK, tlK, k37, argEnv]
  try simp only [OpK_eq, HKv, subC3, go_sem]
  refine (p83 fs n hf hn5 hfl q hq _).go ?_
  try simp only [OpK_eq, HKv, go_sem]
  repeat' (first
    | (rw [vT_alt]; refine And.intro ?_ ?_)
    | (with_reducible refine And.intro ?_ ?_)
    | exact hmid _ _ _ _ rfl rfl rfl rfl rfl rfl rfl rfl rfl (by decide) (by decide) (by decide)
    | omega
    | (simp only [OpK_eq, HKv, go_sem]))
end Go.Proofs.YtpihikppdeecmaaGreat
end
section
/- Sorting of at most twelve numbers by a function, the greatest first. -/
namespace Go.Proofs.YtpihikppdeecmaaGreat
open Go.Kv
set_option linter.unusedVariables false
set_option linter.unusedSimpArgs false
attribute [local irreducible] ACall PCall KL
def negs (m : List Int) : List Int := m.map fun x => -x
@[simp] theorem negs_length (m : List Int) : (negs m).length = m.length := by simp [negs]
end Go.Proofs.YtpihikppdeecmaaGreat
end
section
/- Heights and basins: both sides, and the laws' functions. -/
namespace Go.Proofs.YtpihikppdeecmaaGreat
open Go.Kv
set_option linter.unusedVariables false
set_option linter.unusedSimpArgs false
attribute [local irreducible] ACall PCall KL
def htl (f : List Nat) (n x : Nat) : List Int := (List.range x).map fun p => (hgt f n p : Int)
@[simp] theorem htl_length (f : List Nat) (n x : Nat) : (htl f n x).length = x := by simp [htl]
def bsl (f : List Nat) (n x : Nat) : List Int := (List.range x).map fun p => (mino f (it f (hgt f n p) p) : Int)
@[simp] theorem bsl_length (f : List Nat) (n x : Nat) : (bsl f n x).length = x := by simp [bsl]
theorem hgt_spec {f : List Nat} {n p : Nat} (hf : Ok f n) (hp : p < n) : hgt f n p ≤ 60 ∧ cyc f n (it f (hgt f n p) p) = true := by
  have hlt : hgt f n p < (List.range 61).length := by
    rw [hgt, List.findIdx_lt_length]
    exact ⟨60, by simp, cyc_late hf hp (by have := hf.le; omega)⟩
  refine ⟨by simp at hlt; omega, ?_⟩
  have := List.findIdx_getElem (w := hlt)
  have e : (List.range 61)[hgt f n p]'hlt = hgt f n p := List.getElem_range _
  unfold hgt at e ⊢
  rw [e] at this
  exact this
end Go.Proofs.YtpihikppdeecmaaGreat
end
section
/- Cycle types: both sides. -/
namespace Go.Proofs.YtpihikppdeecmaaGreat
open Go.Kv
set_option linter.unusedVariables false
set_option linter.unusedSimpArgs false
attribute [local irreducible] ACall PCall KL
/-- The length of the cycle of a cyclic point. -/
def clen (f : List Nat) (p : Nat) : Nat := (List.range 60).findIdx (fun k => decide (it f (k + 1) p = p)) + 1
attribute [local irreducible] clen
/-- A slice of numbers that grows, and is all the heap. -/
def GrI (v : PV) (σ : Heap) (l : List Int) : Prop := (v = .nils ∧ σ = [] ∧ l = []) ∨ ∃ ver, v = .ref 0 ver 0 l.length ∧ σ = [.arr ver 2 1 (ints l)]
theorem GrI.push {v : PV} {σ : Heap} {l : List Int} (h : GrI v σ l) (hl : l.length ≤ 1000) (x : Int) {K : PV → Heap → Prop} (hK : ∀ v' σ', GrI v' σ' (l ++ [x]) → K v' σ') : aApp 2 1 v (.list [.int .i64 x]) σ K := by
  have hok : okL 1 [PV.int .i64 x] = True := by simp [okL, PV.cs, PV.ok]
  rcases h with ⟨rfl, rfl, rfl⟩ | ⟨ver, rfl, rfl⟩
  · simp only [aApp_nils, aNews_list, hok, true_and, AppN_def]
    refine ⟨by simp, hK _ _ (.inr ⟨0, ?_, ?_⟩)⟩
    · simp
    · simp [ints]
  · have h0 : ([AObj.arr ver 2 1 (ints l)] : Heap)[0]? = some (.arr ver 2 1 (ints l)) := rfl
    simp only [aApp_ref, h0, AppR_arr, aNews_list, hok, true_and, AppM_def]
    refine ⟨⟨by simp [ints_length], by simp; omega⟩, hK _ _ (.inr ⟨ver + 1, ?_, ?_⟩)⟩
    · simp
    · rw [List.take_of_length_le (by simp [ints_length])]; simp [ints]
attribute [local irreducible] bsl
end Go.Proofs.YtpihikppdeecmaaGreat
end
section
/- Numbers of maps: plain laws of heights, cycles, powers. -/
namespace Go.Proofs.YtpihikppdeecmaaGreat
open Go.Kv
set_option linter.unusedVariables false
set_option linter.unusedSimpArgs false
attribute [local irreducible] ACall PCall KL
theorem cyc_of {f : List Nat} {n p d : Nat} (hf : Ok f n) (hp : p < n) (hd : 1 ≤ d) (h : it f d p = p) : cyc f n p = true := by
  have h1 := it_mul h n
  have h2 := cyc_late hf hp (k := d * n) (by have := Nat.le_mul_of_pos_left n hd; omega)
  rwa [h1] at h2
theorem hgt_le {f : List Nat} {n p k : Nat} (hf : Ok f n) (hp : p < n) (h : cyc f n (it f k p) = true) : hgt f n p ≤ k := by
  apply Classical.byContradiction
  intro hk
  have h60 := (hgt_spec hf hp).1
  have hlt : k < (List.range 61).findIdx fun k => cyc f n (it f k p) := by unfold hgt at hk; omega
  have := List.not_of_lt_findIdx hlt
  simp only [List.getElem_range] at this
  rw [h] at this; cases this
/-- All that returns comes back from where it is led. -/
theorem cyc_back {f : List Nat} {n p : Nat} (h : cyc f n p = true) (k : Nat) : ∃ j, it f j (it f k p) = p := by
  obtain ⟨d, h1, h2, h3⟩ := cyc_iff.1 h
  refine ⟨d * k - k, ?_⟩
  have hj : k ≤ d * k := Nat.le_mul_of_pos_left k h1
  rw [← it_add, show k + (d * k - k) = d * k by omega, it_mul h3]
/-- What the round of the powers says. -/
structure Rnd (f : List Nat) (n a L : Nat) : Prop where
  lt : a < L
  eq : itM f n L = itM f n a
  nd : ∀ i j, i < j → j < L → itM f n i ≠ itM f n j
theorem Rnd.max {f : List Nat} {n a L : Nat} (hf : Ok f n) (h : Rnd f n a L) : (∀ p, p < n → hgt f n p ≤ a) ∧ (a = 0 ∨ ∃ p, p < n ∧ hgt f n p = a) := by
  have hlt := h.lt
  have heq : ∀ p, p < n → it f L p = it f a p := fun p hp => by
    have := congrArg (fun l : List Nat => l.getD p 0) h.eq
    simp only [itM_get hp] at this; exact this
  have hle : ∀ p, p < n → hgt f n p ≤ a := fun p hp => by
    refine hgt_le hf hp (cyc_of hf (it_lt hf hp a) (d := L - a) (by omega) ?_)
    rw [← it_add, show a + (L - a) = L by omega]; exact heq p hp
  refine ⟨hle, ?_⟩
  apply Classical.byContradiction
  intro hno
  have ha : 1 ≤ a := Nat.pos_of_ne_zero fun e => hno (.inl e)
  have hall : ∀ p, p < n → cyc f n (it f (a - 1) p) = true := fun p hp => by
    have h1 := hle p hp
    have h2 : hgt f n p ≠ a := fun e => hno (.inr ⟨p, hp, e⟩)
    have h3 := (hgt_spec hf hp).2
    have h4 := cyc_step h3 (a - 1 - hgt f n p)
    rwa [← it_add, show hgt f n p + (a - 1 - hgt f n p) = a - 1 by omega] at h4
  refine h.nd (a - 1) (L - 1) (by omega) (by omega) ?_
  refine ext_getD (by simp [itM]) fun p hp => ?_
  simp only [itM, List.length_map, List.length_range] at hp
  rw [itM_get hp, itM_get hp]
  obtain ⟨s, hs⟩ := cyc_back (hall p hp) 1
  have e1 : it f 1 (it f (a - 1) p) = it f a p := by rw [← it_add, show a - 1 + 1 = a by omega]
  rw [e1] at hs
  have e2 : it f (L - a) (it f a p) = it f a p := by rw [← it_add, show a + (L - a) = L by omega]; exact heq p hp
  calc it f (a - 1) p = it f s (it f a p) := hs.symm
    _ = it f s (it f (L - a) (it f a p)) := by rw [e2]
    _ = it f (L - a) (it f s (it f a p)) := by rw [← it_add, Nat.add_comm, it_add]
    _ = it f (L - a) (it f (a - 1) p) := by rw [hs]
    _ = it f (L - 1) p := by rw [← it_add, show a - 1 + (L - a) = L - 1 by omega]
/-- Powers that all differ are not too many. -/
theorem pow_few {f : List Nat} {n L : Nat} (hf : Ok f n) (h : ∀ i j, i < j → j < L → itM f n i ≠ itM f n j) : L ≤ 3125 := by
  have h1 : ((List.range L).map fun k => nbl n (itM f n k)).Nodup := by
    rw [List.nodup_iff_pairwise_ne, List.pairwise_map, List.pairwise_iff_getElem]
    intro i j hi hj hij e
    simp only [List.length_range] at hi hj
    simp only [List.getElem_range] at e
    exact h i j hij hj (nbl_inj (itM_ok hf i) (itM_ok hf j) e)
  have h2 := nodup_len (n ^ n) _ h1 fun x hx => by
    obtain ⟨k, _, rfl⟩ := List.mem_map.1 hx
    exact (dg_nbl (itM_ok hf k)).1
  rw [List.length_map, List.length_range] at h2
  have h3 : n ^ n ≤ 3125 := by
    have h1 := hf.pos
    have h5 := hf.le
    match n, h1, h5 with
    | 1, _, _ => decide
    | 2, _, _ => decide
    | 3, _, _ => decide
    | 4, _, _ => decide
    | 5, _, _ => decide
  omega
end Go.Proofs.YtpihikppdeecmaaGreat
end
section
/- The identity of some points. -/
namespace Go.Proofs.YtpihikppdeecmaaGreat
open Go.Kv
set_option maxRecDepth 100000
def k96_b0 : KC := (.seq (.ops [oP 9 (.bin .lss (.t 8) (.t 7))])
  (.seq (.cond (.t 9) .skip (.exit 0))
  (.seq (.block 1 (.seq (.ops [mV 10 8, mV 4 10])
  (.ops [mV 11 4, mV 12 4, oP 13 (.fieldA 1 (.t 3)), oP 14 (.idxA 5 1 (.t 13) (.t 11)), ⟨none, none, .store 1 (.t 14) (.t 12)⟩])))
  (.ops [oP 15 (.bin .add (.t 8) (iC 1)), mV 8 15]))))
def k96 : KC := (.seq (.ops [oP 2 (.alloc [.int .i64 0, .int .i64 0, .int .i64 0, .int .i64 0, .int .i64 0, .int .i64 0])])
  (.seq (.ops [mV 5 0, oP 6 (.build [.int .i64 0, .int .i64 0, .int .i64 0, .int .i64 0, .int .i64 0, .int .i64 0] [(0, 1, (.t 5))]), oP 3 (.alloc [.int .i64 0, .int .i64 0, .int .i64 0, .int .i64 0, .int .i64 0, .int .i64 0]), ⟨none, none, .store 6 (.t 3) (.t 6)⟩])
  (.seq (.seq (.ops [mV 7 0, oP 8 (.mv (iC 0))])
  (.block 0 (.loop k96_b0)))
  (.seq (.ops [oP 16 (.load true 6 (.t 3)), ⟨none, none, .store 6 (.t 2) (.t 16)⟩])
  .ret))))
theorem e96 : Ent 96 17 [] [.cell 2 true 6] k96 := ent Tryz.func96 (by kernel_rfl) (by kernel_rfl) (by kernel_rfl) (fun _ => by kernel_rfl) (by kernel_rfl)
end Go.Proofs.YtpihikppdeecmaaGreat
namespace Go.Proofs.YtpihikppdeecmaaGreat
open Go.Kv
set_option linter.unusedVariables false
set_option linter.unusedSimpArgs false
attribute [local irreducible] ACall PCall KL
theorem p96 (n : Nat) (h1 : 1 ≤ n) (h5 : n ≤ 5) : Pure Tryz.prog 96 [.int .i64 n] (.agg (ints (mp (List.range n)))) := by
  refine e96 (by simp) fun _ _ => ?_
  simp only [k96, argEnv, go_sem]
  refine KL_ind k96_b0.eq_1 (fun x : Nat => [(2, .ptr 0 0), (3, .ptr 1 0), (7, .int .i64 n), (8, .int .i64 x)]) (fun x => [.box (ints [0, 0, 0, 0, 0, 0]), .box (ints (mpN n (List.range x)))]) (fun x => x ≤ n) (fun x => n - x) [2, 3, 7, 8] 0 (by rfl) (by rfl) (Nat.zero_le _) fun x hi ih => ?_
  have hl : (mpN n (List.range x)).length = 6 := mpN_length (by simp; omega)
  try simp only [hl, go_sem]
  refine ⟨fun h => ?_, fun h => ?_⟩
  · repeat' (first | refine And.intro ?_ ?_ | intro _)
    all_goals (try omega)
    refine ih (x + 1) (by omega) (by omega) _ _ (by rfl) ?_
    rw [mpN_pushI (by simp) (by simp; omega), ← List.range_succ]
  · obtain rfl : x = n := by omega
    refine Kv.Fin.still ⟨?_, rfl⟩
    simp [mp]
end Go.Proofs.YtpihikppdeecmaaGreat
end
section
/- The round of the powers of a map: the implementation. -/
namespace Go.Proofs.YtpihikppdeecmaaGreat
open Go.Kv
set_option maxRecDepth 100000
def k46_b0 : KC := (.block 1 (.seq (.draw [mV 11 4, mV 12 4, oP 13 (.len false (.t 12)), oP 14 (.bin .sub (.t 13) (iC 1)), oP 15 (.idxS 6 (.t 11) (.t 14)), oP 16 (.load true 6 (.t 15)), oP 17 (.load true 6 (.t 1)), oP 18 (.pcall (fC 97) [(.t 16), (.t 17)]), oP 5 (.alloc [.int .i64 0, .int .i64 0, .int .i64 0, .int .i64 0, .int .i64 0, .int .i64 0]), ⟨none, none, .store 6 (.t 5) (.t 18)⟩])
  (.seq (.seq (.ops [mV 19 4, oP 20 (.load true 6 (.t 5)), oP 21 (.call (fC 98) [(.t 19), (.t 20)]), mV 6 21])
  (.seq (.ops [mV 22 6, oP 23 (.bin .geq (.t 22) (iC 0))])
  (.cond (.t 23) (.seq (.ops [mV 24 6, mV 25 4, oP 26 (.len false (.t 25)), mV 27 6, oP 28 (.bin .sub (.t 26) (.t 27)), mV 2 24, mV 3 28])
  .ret) .skip)))
  (.ops [mV 29 4, oP 30 (.load true 6 (.t 5)), oP 31 (.bsl true 54 6 [(.t 30)]), oP 32 (.app (.t 29) (.t 31) 54 6), mV 4 32]))))
def k46 : KC := (.seq (.ops [oP 1 (.box true (.t 0)), oP 2 (.mv (iC 0)), oP 3 (.mv (iC 0))])
  (.seq (.ops [oP 7 (.fieldA 0 (.t 1)), oP 8 (.load false 1 (.t 7)), oP 9 (.call (fC 96) [(.t 8)]), oP 10 (.bsl false 54 6 [(.t 9)]), mV 4 10])
  (.block 0 (.loop k46_b0))))
theorem e46 : Ent 46 33 [1, 31] [.t 2, .t 3] k46 := ent Tryz.func46 (by kernel_rfl) (by kernel_rfl) (by kernel_rfl) (fun _ => by kernel_rfl) (by kernel_rfl)
def k98_b0 : KC := (.seq (.ops [oP 9 (.bin .lss (.t 8) (.t 7))])
  (.seq (.cond (.t 9) .skip (.exit 0))
  (.seq (.block 1 (.seq (.ops [mV 10 8, mV 5 10])
  (.seq (.draw [oP 11 (.load true 6 (.t 3)), mV 12 0, mV 13 5, oP 14 (.idxS 6 (.t 12) (.t 13)), oP 15 (.load true 6 (.t 14)), oP 16 (.aeq false 6 (.t 11) (.t 15))])
  (.cond (.t 16) (.seq (.ops [mV 17 5, mV 4 17])
  .ret) .skip))))
  (.ops [oP 18 (.bin .add (.t 8) (iC 1)), mV 8 18]))))
def k98 : KC := (.seq (.ops [oP 3 (.box true (.t 1)), oP 4 (.mv (iC 0))])
  (.seq (.seq (.ops [mV 6 0, oP 7 (.len false (.t 6)), oP 8 (.mv (iC 0))])
  (.block 0 (.loop k98_b0)))
  (.seq (.ops [oP 4 (.mv (iC (-1)))])
  .ret)))
theorem e98 : Ent 98 19 [3] [.t 4] k98 := ent Tryz.func98 (by kernel_rfl) (by kernel_rfl) (by kernel_rfl) (fun _ => by kernel_rfl) (by kernel_rfl)
end Go.Proofs.YtpihikppdeecmaaGreat
namespace Go.Proofs.YtpihikppdeecmaaGreat
open Go.Kv
set_option linter.unusedVariables false
set_option linter.unusedSimpArgs false
attribute [local irreducible] ACall PCall KL
theorem range_okR {n : Nat} (h1 : 1 ≤ n) (h5 : n ≤ 5) : Ok (List.range n) n := by
  refine ⟨?_, ?_, ?_, ?_⟩ <;> first | exact h1 | exact h5 | simp
/-- Where a map stands in a list; -1 if it doesn't. -/
def ixM (Q : List (List Nat)) (g : List Nat) : Int := if g ∈ Q then (Q.idxOf g : Int) else -1
theorem ix_at {g : List Nat} : ∀ {Q : List (List Nat)} {x : Nat} (h : x < Q.length), Q[x] = g → g ∉ Q.take x → Q.idxOf g = x
  | a :: Q, 0, _, he, _ => by
    simp only [List.getElem_cons_zero] at he
    subst he; simp
  | a :: Q, x + 1, h, he, hn => by
    simp only [List.getElem_cons_succ] at he
    simp only [List.take_succ_cons, List.mem_cons, not_or] at hn
    have := ix_at (by simpa using h) he hn.2
    rw [List.idxOf_cons, this]
    have hne : (a == g) = false := by simpa using Ne.symm hn.1
    rw [hne]; rfl
theorem p98 (Q : List (List Nat)) (n : Nat) (hQ : ∀ f ∈ Q, Ok f n) (hl : Q.length ≤ 4000) (g : List Nat) (hg : Ok g n) : Pure Tryz.prog 98 [.list (aggs (Q.map mp)), .agg (ints (mp g))] (.int .i64 (ixM Q g)) := by
  have h6g := hg.mp_len
  refine e98 (by simp) fun _ _ => ?_
  simp only [k98, argEnv, h6g, go_sem]
  try simp only [aggs_length, List.length_map, go_sem]
  have hg0 : (List.map (fun k => mp k) Q).length = Q.length := List.length_map _
  refine KL_ind k98_b0.eq_1 (fun x : Nat => [(0, .list (aggs (Q.map mp))), (3, .fptr (ints (mp g)) 0), (7, .int .i64 Q.length), (8, .int .i64 x)]) (fun _ => []) (fun x => x ≤ Q.length ∧ g ∉ Q.take x) (fun x => Q.length - x) [0, 3, 7, 8] 0 (by simp [keep]) rfl ⟨Nat.zero_le _, by simp⟩ fun x ⟨hx, hn⟩ ih => ?_
  try simp only [OpK_eq, HKv, aggs_length, List.length_map, h6g, go_sem]
  refine ⟨fun g1 => ?_, fun g1 => ?_⟩
  · have hxl : x < Q.length := by omega
    have hgx : (Q.map mp).getD x [] = mp Q[x] := by simp [List.getD_eq_getElem?_getD, hxl]
    have h6x := (hQ _ (List.getElem_mem hxl)).mp_len
    have hcd : decide (mp g = mp Q[x]) = decide (g = Q[x]) := decide_eq_decide.2 ⟨mp_inj, fun h => by rw [h]⟩
    try simp only [OpK_eq, HKv, aggs_length, List.length_map, h6g, hgx, h6x, hcd, go_sem]
    refine ⟨by omega, fun _ => ⟨fun h => Kv.Fin.still ⟨?_, rfl⟩, fun h => ⟨by omega, ih (x + 1) ⟨by omega, ?_⟩ (by omega) _ _ (by simp [keep]) rfl⟩⟩⟩
    · have e := mp_inj h
      rw [ixM, if_pos (by rw [e]; exact List.getElem_mem hxl), ix_at hxl e.symm hn]
    · rw [List.take_succ_eq_append_getElem hxl, List.mem_append, List.mem_singleton]
      rintro (h' | h')
      · exact hn h'
      · exact h (by rw [h'])
  · obtain rfl : x = Q.length := by omega
    rw [List.take_length] at hn
    refine Kv.Fin.still ⟨?_, rfl⟩
    rw [ixM, if_neg hn]
theorem p46 (f : List Nat) (n : Nat) (hf : Ok f n) {K : PV → Heap → Prop} (hK : ∀ a L, Rnd f n a L → L ≤ 3125 → K (.tup [.int .i64 a, .int .i64 ((L : Int) - a)]) []) : ACall Tryz.prog 46 [.agg (ints (mp f))] [] K := by
  have h6f := hf.mp_len
  have h1 := hf.pos
  have h5 := hf.le
  have h06 := (range_okR h1 h5).mp_len
  have hp0 : (mp f).getD 0 0 = (n : Int) := by rw [mp, hf.len]; rfl
  refine e46 (by simp) fun _ _ => ?_
  simp only [k46, argEnv, h6f, hp0, go_sem]
  refine (p96 n h1 h5).go ?_
  try simp only [OpK_eq, HKv, h06, go_sem]
  refine KL_ind k46_b0.eq_1 (fun x : Nat × Nat × Heap => [(1, .fptr (ints (mp f)) 0), (4, .ref 0 x.2.1 0 x.1)]) (fun x => .arr x.2.1 54 6 (aggs ((List.range x.1).map fun k => mp (itM f n k))) :: x.2.2) (fun x => 1 ≤ x.1 ∧ ∀ i j, i < j → j < x.1 → itM f n i ≠ itM f n j) (fun x => 3126 - x.1) [1, 4] (1, 0, []) (by simp [keep]) (by try rw [show (List.range 1).map (fun k => mp (itM f n k)) = [mp (List.range n)] by simp [itM_zero]]; rfl) ⟨Nat.le_refl _, fun i j h1 h2 => by omega⟩ fun ⟨L, ver, X⟩ ⟨hL, hnd⟩ ih => ?_
  simp only at hL hnd
  have hfew := pow_few hf hnd
  have hgl : ((List.range L).map fun k => mp (itM f n k)).getD (L - 1) [] = mp (itM f n (L - 1)) := by
    rw [List.getD_eq_getElem?_getD, List.getElem?_map, List.getElem?_range (by omega)]; rfl
  have hO := itM_ok hf (L - 1)
  have hOL := itM_ok hf L
  have h6O := hO.mp_len
  have h6L := hOL.mp_len
  have hnat : ((L : Int) - 1).toNat = L - 1 := by omega
  have hal : ((List.range L).map fun k => mp (itM f n k)).length = L := by simp
  have h00 : ∀ (a : AObj) (Y : Heap), (a :: Y)[0]? = some a := fun a Y => rfl
  try simp only [OpK_eq, HKv, h00, aggs_length, hal, hnat, hgl, h6O, h6f, go_sem]
  refine ⟨by omega, ⟨by omega, by omega, Nat.le_refl _⟩, by omega, fun _ => ?_⟩
  refine (p97 _ f n hO hf).pgo ?_
  have hmul : mul (itM f n (L - 1)) f = itM f n L := by
    have := itM_mul hf (L - 1) 1
    rwa [itM_one hf, Nat.sub_add_cancel hL] at this
  rw [hmul]
  have hil : (ints (mp (itM f n L))).length = 6 := by rw [ints_length, h6L]
  have hgb : ∀ (a : AObj) (Y : Heap) (z : AObj), (a :: (Y ++ [z]))[Y.length + 1]? = some z := fun a Y z => by simp
  have hsb : ∀ (a : AObj) (Y : Heap) (z z' : AObj), (a :: (Y ++ [z])).set (Y.length + 1) z' = a :: (Y ++ [z']) := fun a Y z z' => by simp [List.set_append_right]
  try simp only [OpK_eq, HKv, h00, hil, List.length_cons, List.cons_append, hgb, hsb, h6L, go_sem]
  have hQm : ((List.range L).map fun k => mp (itM f n k)) = ((List.range L).map fun k => itM f n k).map mp := by rw [List.map_map]; rfl
  have hQO : ∀ g ∈ (List.range L).map (fun k => itM f n k), Ok g n := fun g hg => by
    obtain ⟨k, _, rfl⟩ := List.mem_map.1 hg
    exact itM_ok hf k
  have hix := p98 ((List.range L).map fun k => itM f n k) n hQO (by simp; omega) (itM f n L) hOL
  rw [← hQm] at hix
  refine hix.lend (.cons (Imm.refa' (h00 _ _) hal.symm) (.cons Imm.still (.nil _))) ?_
  try simp only [OpK_eq, HKv, h00, hil, List.length_cons, List.cons_append, hgb, hsb, h6L, aggs_length, hal, go_sem]
  by_cases hin : itM f n L ∈ (List.range L).map fun k => itM f n k
  · have hlt := List.idxOf_lt_length_iff.2 hin
    have hge := List.getElem_idxOf hlt
    rw [ixM, if_pos hin]
    generalize ((List.range L).map fun k => itM f n k).idxOf (itM f n L) = a at hlt hge ⊢
    simp only [List.length_map, List.length_range] at hlt
    simp only [List.getElem_map, List.getElem_range] at hge
    refine ⟨fun _ => ⟨by omega, Kv.Fin.still (hK a L ⟨hlt, hge.symm, hnd⟩ hfew)⟩, fun h => absurd h (by omega)⟩
  · rw [ixM, if_neg hin]
    refine ⟨fun h => absurd h (by omega), fun _ => ⟨⟨Nat.le_refl _, by omega⟩, ih (L + 1, ver + 1, X ++ [.box (ints (mp (itM f n L)))]) ⟨by show 1 ≤ L + 1; omega, fun i j h1 h2 e => ?_⟩ (by show 3126 - (L + 1) < 3126 - L; omega) _ _ (by simp [keep]) ?_⟩⟩
    · by_cases hj : j = L
      · subst hj
        exact hin (List.mem_map.2 ⟨i, List.mem_range.2 h1, e⟩)
      · exact hnd i j h1 (by have : j < L + 1 := h2; omega) e
    · simp [aggs, List.range_succ]
      exact List.take_of_length_le (by simp)
end Go.Proofs.YtpihikppdeecmaaGreat
end
