/- The search with points of its own: what it calls, how its queue lies. -/
import Derived.Test.YtpepbomifjbgnaaCb
import Derived.Test.YtpepbomifjbgnaaG4
import Derived.Test.YtpepbomifjbgnaaWI
import Derived.Test.YtpepbomifjbgnaaG6
import Derived.Test.YtpepbomifjbgnaaSP
namespace Go.Proofs.Ytpepbomifjbgnaa
open Go.Kv
set_option maxRecDepth 100000
/- impl.reachedSets$1 -/
def k162 : KC := (.seq (.ops [⟨(some 2), none, .box true (.t 0)⟩, ⟨(some 3), none, .mv (.c (.bool false))⟩])
  (.seq (.ops [⟨(some 4), none, .load false 1 (.t 1)⟩, ⟨(some 5), none, .fieldA 0 (.t 2)⟩, ⟨(some 6), none, .load false 1 (.t 5)⟩, ⟨(some 7), none, .bsl true 23 1 [(.t 6)]⟩, ⟨(some 8), none, .app (.t 4) (.t 7) 23 1⟩, ⟨none, none, .store 1 (.t 1) (.t 8)⟩])
  (.seq (.ops [⟨(some 3), none, .mv (.c (.bool true))⟩])
  .ret)))
theorem e162 {args : List PV} {σ : Heap} {K : PV → Heap → Prop} (hl : args.length ≤ 9) (h : Wf σ → (∀ a ∈ args, PV.upto σ.length a) → vc (mkCfg Try.prog mixed [2, 7] 9 σ.length) k162 (FinK σ.length [.t 3] K) (argEnv 0 args) σ) : ACall Try.prog 162 args σ K :=
  ACall_enter (C := mkCfg Try.prog mixed [2, 7] 9 σ.length) (c := Try.f162.body.getD .skip) Try.func162 (by kernel_rfl) (by kernel_rfl) (by kernel_rfl) rfl hl (by kernel_rfl) (by kernel_rfl) h
end Go.Proofs.Ytpepbomifjbgnaa
namespace Go.Proofs.Ytpepbomifjbgnaa
open Go.Kv
set_option linter.unusedVariables false
set_option linter.unusedSimpArgs false
attribute [local irreducible] ACall PCall KL
theorem image_ownL (f : List Nat) (n : Nat) (hf : Ok f n) (l : List Nat) (hl : ∀ x ∈ l, x < n) (h1 : 1 ≤ l.length) (h12 : l.length ≤ 12) : ACall Try.prog 79 [.agg (ints (mp f)), .list (ints (l.map fun x : Nat => (x : Int)))] [] (fun v s => ∃ ver post, v = .ref 0 ver 0 (imgs f l).length ∧ s = [.arr ver 2 1 (ints (imgs f l ++ post))]) := by
  have hlf := hf.mp_len
  have h5 := hf.le
  refine e79 (by simp) fun _ _ => ?_
  simp only [k79, argEnv, hlf, List.length_map, take6, List.drop_zero, Int.cast_ofNat_Int, go_sem, ↓reduceIte, Nat.reduceEqDiff, Nat.reduceAdd, Nat.reduceMul, Nat.reduceLeDiff, Nat.reduceLT, Int.reduceLE, Int.reduceLT, reduceCtorEq]
  refine KL_ind k79_b0.eq_1 (fun x : Nat => [(2, .fptr (ints (mp f)) 0), (5, nref 0 x), (8, .list (ints (l.map fun x : Nat => (x : Int)))), (9, .int .i64 l.length), (10, .int .i64 x)]) (fun x => nhp [.arr (x - 1) 2 1 (ints ((l.take x).map fun p => (f.getD p 0 : Int)))] x) (fun x => x ≤ l.length) (fun x => l.length - x) [2, 5, 8, 9, 10] 0 (by rfl) (by rfl) (Nat.zero_le _) fun x hx ih => ?_
  have hgl : ∀ x, x < l.length → l.getD x 0 < n := fun x hx => by
    rw [List.getD_eq_getElem?_getD, List.getElem?_eq_getElem hx]
    exact hl _ (List.getElem_mem hx)
  have hsn : ∀ x, x < l.length → (l.take (x + 1)).map (fun p => (f.getD p 0 : Int)) = (l.take x).map (fun p => (f.getD p 0 : Int)) ++ [(f.getD (l.getD x 0) 0 : Int)] := fun x hx => by
    rw [List.take_succ_eq_append_getElem hx, List.map_append]
    simp [List.getD_eq_getElem?_getD, hx]
  have hn0 : ∀ k : Nat, (k : Int).toNat = k := fun k => by omega
  try simp only [hlf, natD, List.length_map, hn0, take6, List.drop_zero, Int.cast_ofNat_Int, go_sem, ↓reduceIte, Nat.reduceEqDiff, Nat.reduceAdd, Nat.reduceMul, Nat.reduceLeDiff, Nat.reduceLT, Int.reduceLE, Int.reduceLT, reduceCtorEq]
  refine ⟨fun h2 => ?_, fun h2 => ?_⟩
  · have hxl : x < l.length := by omega
    have hgx := hgl x hxl
    rcases x with _ | x
    · try simp only [hlf, natD, List.length_map, hn0, take6, List.drop_zero, Int.cast_ofNat_Int, go_sem, ↓reduceIte, Nat.reduceEqDiff, Nat.reduceAdd, Nat.reduceMul, Nat.reduceLeDiff, Nat.reduceLT, Int.reduceLE, Int.reduceLT, reduceCtorEq]
      refine ⟨by omega, fun _ => ⟨by omega, by omega, fun _ => ⟨by omega, ih 1 (by omega) (by omega) _ _ (by rfl) ?_⟩⟩⟩
      show _ = [AObj.arr 0 2 1 (ints ((l.take (0 + 1)).map fun p => (f.getD p 0 : Int)))]
      rw [hsn 0 hxl]; rfl
    · have hlt : (l.take (x + 1)).length = x + 1 := by simp; omega
      try simp only [hlf, natD, List.length_map, hn0, hlt, take6, List.drop_zero, Int.cast_ofNat_Int, go_sem, ↓reduceIte, Nat.reduceEqDiff, Nat.reduceAdd, Nat.reduceMul, Nat.reduceLeDiff, Nat.reduceLT, Int.reduceLE, Int.reduceLT, reduceCtorEq]
      refine ⟨by omega, fun _ => ⟨by omega, by omega, fun _ => ⟨by omega, by omega, ih (x + 1 + 1) (by omega) (by omega) _ _ (by rfl) ?_⟩⟩⟩
      show _ = [AObj.arr (x + 1) 2 1 (ints ((l.take (x + 1 + 1)).map fun p => (f.getD p 0 : Int)))]
      rw [hsn (x + 1) hxl, List.take_of_length_le (by simp; omega)]
  · obtain rfl : x = l.length := by omega
    rw [nref_pos (by omega), nhp_pos (by omega), List.take_length]
    try simp only [take6, List.drop_zero, Int.cast_ofNat_Int, go_sem, ↓reduceIte, Nat.reduceEqDiff, Nat.reduceAdd, Nat.reduceMul, Nat.reduceLeDiff, Nat.reduceLT, Int.reduceLE, Int.reduceLT, reduceCtorEq]
    refine sortN _ 0 (l.length - 1) 2 (l.map fun p => (f.getD p 0 : Int)) l.length (by simp) rfl (by simp; omega) fun r hp hS => ?_
    have hrl : l.length = r.length := by have := hp.length_eq; simpa using this.symm
    try simp only [take6, List.drop_zero, Int.cast_ofNat_Int, go_sem, ↓reduceIte, Nat.reduceEqDiff, Nat.reduceAdd, Nat.reduceMul, Nat.reduceLeDiff, Nat.reduceLT, Int.reduceLE, Int.reduceLT, reduceCtorEq]
    refine compactN _ 0 (l.length - 1) 2 r l.length hrl rfl (by omega) fun post => ?_
    try simp only [take6, List.drop_zero, Int.cast_ofNat_Int, go_sem, ↓reduceIte, Nat.reduceEqDiff, Nat.reduceAdd, Nat.reduceMul, Nat.reduceLeDiff, Nat.reduceLT, Int.reduceLE, Int.reduceLT, reduceCtorEq]
    have hr := srt_eq hp hS
    subst hr
    exact Kv.Fin.now ⟨_, _, rfl, rfl⟩
theorem image_own (f : List Nat) (n : Nat) (hf : Ok f n) {p : List Int} (hp : asc n p) : ACall Try.prog 79 [.agg (ints (mp f)), .list (ints p)] [] (fun v s => ∃ ver post, v = .ref 0 ver 0 (img f p).length ∧ s = [.arr ver 2 1 (ints (img f p ++ post))]) := by
  have hl := asc_len hp
  have h5 := hf.le
  obtain ⟨l, rfl, _, h1, _⟩ := hp
  rw [List.length_map] at hl
  have := image_ownL f n hf l h1 (by omega) (by omega)
  unfold img
  rwa [toNat_map]
/-- A list of points that lies in the heap; A: what is not to be it. -/
def Ow (σ : Heap) (A : Nat → Prop) (u : PV) (p : List Int) : Prop := ∃ id ver post, u = .ref id ver 0 p.length ∧ σ[id]? = some (.arr ver 2 1 (ints (p ++ post))) ∧ ¬ A id
def rid : PV → Nat
  | .ref id _ _ _ => id
  | _ => 0
theorem Ow.imm {σ : Heap} {A : Nat → Prop} {u : PV} {p : List Int} (h : Ow σ A u p) : Imm σ u (.list (ints p)) := by
  obtain ⟨id, ver, post, rfl, h, _⟩ := h
  exact Imm.refp (pre := []) (post := post) h rfl rfl
theorem Ow.keep {σ σ' : Heap} {A A' : Nat → Prop} {u : PV} {p : List Int} (h : Ow σ A u p) (hk : ∀ id, id < σ.length → ¬ A id → σ'[id]? = σ[id]? ∧ ¬ A' id) : Ow σ' A' u p := by
  obtain ⟨id, ver, post, rfl, h, ha⟩ := h
  have := hk id (List.getElem?_eq_some_iff.1 h).1 ha
  exact ⟨id, ver, post, rfl, this.1.trans h, this.2⟩
theorem Ow.rid {σ : Heap} {A : Nat → Prop} {u : PV} {p : List Int} (h : Ow σ A u p) : rid u < σ.length := by
  obtain ⟨id, ver, post, rfl, h, _⟩ := h
  exact (List.getElem?_eq_some_iff.1 h).1
theorem Ow.ok {σ : Heap} {A : Nat → Prop} {u : PV} {p : List Int} (h : Ow σ A u p) : u.cs = [u] ∧ u.ok = true ∧ u.free := by
  obtain ⟨id, ver, post, rfl, h, _⟩ := h
  exact ⟨rfl, rfl, free_ref _ _ _ _⟩
theorem Wd.fr {σ : Heap} {A : Nat → Prop} {w : PV} {l : List Int} (h : Wd σ A w l) : w.free := by
  rcases h with ⟨rfl, _⟩ | ⟨id, ver, rfl, _, _⟩
  · exact Plain.nils.fr
  · exact free_ref _ _ _ _
def ocell (u w : PV) : PV := .agg [u, w]
/-- The queue, in the heap. -/
structure QH (σ : Heap) (A : Nat → Prop) (q ver : Nat) (us ws : List PV) (L : List Met) : Prop where
  out : σ[q]? = some (.arr ver 134 2 (List.zipWith ocell us ws))
  lu : us.length = L.length
  lw : ws.length = L.length
  row : ∀ (i : Nat) (u w : PV) (m : Met), us[i]? = some u → ws[i]? = some w → L[i]? = some m → Ow σ (fun id => A id ∨ id = q) u m.1 ∧ Wd σ (fun id => A id ∨ id = q) w m.2
  nd : (us.map rid).Nodup
theorem QH.cell {σ : Heap} {A : Nat → Prop} {q ver : Nat} {us ws : List PV} {L : List Met} (h : QH σ A q ver us ws L) {i : Nat} (hi : i < L.length) : ∃ u w, us[i]? = some u ∧ ws[i]? = some w ∧ (List.zipWith ocell us ws)[i]? = some (ocell u w) ∧ Ow σ (fun id => A id ∨ id = q) u L[i].1 ∧ Wd σ (fun id => A id ∨ id = q) w L[i].2 := by
  have hu : i < us.length := by rw [h.lu]; exact hi
  have hw : i < ws.length := by rw [h.lw]; exact hi
  have := h.row i us[i] ws[i] L[i] (by simp [hu]) (by simp [hw]) (by simp [hi])
  exact ⟨us[i], ws[i], by simp [hu], by simp [hw], by simp [List.getElem?_zipWith, hw, hu], this.1, this.2⟩
theorem QH.imm {σ : Heap} {A : Nat → Prop} {q ver : Nat} {us ws : List PV} {L : List Met} (h : QH σ A q ver us ws L) : Imm σ (.ref q ver 0 L.length) (.list (mets L)) := by
  refine .ref q ver 0 L.length 134 2 _ (mets L) h.out (by simp [h.lu, h.lw]) (mets_length L) (fun i x d hx hd => ?_) (fun i x d j c c' hx hd hc hc' => ?_)
  all_goals
    rw [Nat.zero_add] at hx
    have hi : i < L.length := by have := (List.getElem?_eq_some_iff.1 hd).1; simpa using this
    obtain ⟨u, w, hu, hw, hc0, hU, hW⟩ := h.cell hi
    rw [hc0] at hx; cases hx
    rw [mets_get hi] at hd; cases hd
  · exact ⟨rfl, by simp [mcell, PV.cs, PV.ok]⟩
  · rcases j with _ | _ | j
    · simp only [ocell, mcell, PV.cs, List.getElem?_cons_zero, Option.some.injEq] at hc hc'
      subst hc; subst hc'
      exact hU.imm
    · simp only [ocell, mcell, PV.cs, List.getElem?_cons_succ, List.getElem?_cons_zero, Option.some.injEq] at hc hc'
      subst hc; subst hc'
      exact hW.imm
    · simp [ocell, PV.cs] at hc
theorem QH.keep {σ σ' : Heap} {A A' : Nat → Prop} {q ver : Nat} {us ws : List PV} {L : List Met} (h : QH σ A q ver us ws L) (hq : ¬ A q) (hk : ∀ id, id < σ.length → ¬ A id → σ'[id]? = σ[id]? ∧ ¬ A' id) : QH σ' A' q ver us ws L where
  out := (hk q (List.getElem?_eq_some_iff.1 h.out).1 hq).1.trans h.out
  lu := h.lu
  lw := h.lw
  nd := h.nd
  row := fun i u w m hu hw hm => by
    have hk2 : ∀ id, id < σ.length → ¬ (A id ∨ id = q) → σ'[id]? = σ[id]? ∧ ¬ (A' id ∨ id = q) := fun id hid hA => by
      simp only [not_or] at hA ⊢
      exact ⟨(hk id hid hA.1).1, (hk id hid hA.1).2, hA.2⟩
    obtain ⟨h1, h2⟩ := h.row i u w m hu hw hm
    exact ⟨h1.keep hk2, h2.keep hk2⟩
theorem QH.fr {σ : Heap} {A : Nat → Prop} {q ver : Nat} {us ws : List PV} {L : List Met} (h : QH σ A q ver us ws L) {v : Nat} {e : TypeId} {s : Nat} : AObj.free (.arr v e s (List.zipWith ocell us ws)) := fun c hc => by
  obtain ⟨x, hx, hcx⟩ := List.mem_flatMap.1 hc
  obtain ⟨i, hi⟩ := List.getElem?_of_mem hx
  have hil : i < L.length := by
    have := (List.getElem?_eq_some_iff.1 hi).1
    rw [List.length_zipWith, h.lu, h.lw] at this
    omega
  obtain ⟨u, w, hu, hw, hc0, hU, hW⟩ := h.cell hil
  rw [hc0] at hi; cases hi
  simp only [ocell, PV.cs, List.mem_cons, List.not_mem_nil, or_false] at hcx
  rcases hcx with rfl | rfl
  · exact hU.ok.2.2
  · exact hW.fr
theorem QH.push {σ : Heap} {A : Nat → Prop} {q ver : Nat} {us ws : List PV} {L : List Met} (h : QH σ A q ver us ws L) {p l : List Int} {u w : PV} (hu : Ow σ (fun id => A id ∨ id = q) u p) (hw : Wd σ (fun id => A id ∨ id = q) w l) (hn : rid u ∉ us.map rid) (hl : L.length ≤ 1000) {K : PV → Heap → Prop}
    (hK : QH (σ.set q (.arr (ver + 1) 134 2 (List.zipWith ocell us ws ++ [ocell u w]))) A q (ver + 1) (us ++ [u]) (ws ++ [w]) (L ++ [(p, l)]) → K (.ref q (ver + 1) 0 (L.length + 1)) (σ.set q (.arr (ver + 1) 134 2 (List.zipWith ocell us ws ++ [ocell u w])))) :
    aApp 134 2 (.ref q ver 0 L.length) (.list [.agg [u, w]]) σ K := by
  have hlt := (List.getElem?_eq_some_iff.1 h.out).1
  have hzl : (List.zipWith ocell us ws).length = L.length := by simp [h.lu, h.lw]
  have hok : okL 2 [PV.agg [u, w]] = True := by
    obtain ⟨_, _, _, rfl, _, _⟩ := hu
    rcases hw with ⟨rfl, rfl⟩ | ⟨id, ver, rfl, _, _⟩ <;> simp [okL, PV.cs, PV.ok]
  have hQ : QH (σ.set q (.arr (ver + 1) 134 2 (List.zipWith ocell us ws ++ [ocell u w]))) A q (ver + 1) (us ++ [u]) (ws ++ [w]) (L ++ [(p, l)]) := by
    refine ⟨?_, by simp [h.lu], by simp [h.lw], fun i u' w' m hu' hw' hm => ?_, ?_⟩
    · rw [List.getElem?_set_self hlt, List.zipWith_append (by rw [h.lu, h.lw])]
      rfl
    · have hset : ∀ id, id < σ.length → ¬ (A id ∨ id = q) → (σ.set q (.arr (ver + 1) 134 2 (List.zipWith ocell us ws ++ [ocell u w])))[id]? = σ[id]? ∧ ¬ (A id ∨ id = q) := fun id _ hA => by
        refine ⟨List.getElem?_set_ne ?_, hA⟩
        rintro rfl; exact hA (.inr rfl)
      rw [List.getElem?_append] at hu' hw' hm
      split at hu'
      · rename_i hi
        rw [if_pos (by rw [← h.lu]; exact hi)] at hm
        rw [if_pos (by rw [h.lw, ← h.lu]; exact hi)] at hw'
        obtain ⟨h1, h2⟩ := h.row i u' w' m hu' hw' hm
        exact ⟨h1.keep hset, h2.keep hset⟩
      · rename_i hi
        rw [if_neg (by rw [← h.lu]; exact hi)] at hm
        rw [if_neg (by rw [h.lw, ← h.lu]; exact hi)] at hw'
        have e1 := List.mem_of_getElem? hw'
        have e2 := List.mem_of_getElem? hm
        have e3 := List.mem_of_getElem? hu'
        simp only [List.mem_singleton] at e1 e2 e3
        subst e1; subst e2; subst e3
        exact ⟨hu.keep hset, hw.keep hset⟩
    · rw [List.map_append, List.nodup_append]
      refine ⟨h.nd, by simp, fun a ha b hb => ?_⟩
      simp only [List.map_cons, List.map_nil, List.mem_singleton] at hb
      subst hb
      exact fun e => hn (e ▸ ha)
  simp only [aApp_ref, h.out, AppR_arr, aNews_list, hok, true_and, AppM_def]
  rw [List.take_of_length_le (by omega)]
  exact ⟨⟨by omega, by simp; omega⟩, hK hQ⟩
/-! ### The caller's part: the rows so far -/
theorem p162n (σ : Heap) (b : Nat) (u w : PV) (hu : ∃ i v n, u = .ref i v 0 n) (h0 : σ[b]? = some (.box [.nils])) (hw : w.ok = true) (K : PV → Heap → Prop)
    (hK : K (.bool true) ((σ ++ [AObj.arr 0 23 1 [u]]).set b (AObj.box [.ref σ.length 0 0 1]))) :
    ACall Try.prog 162 [.agg [u, w], .ptr b 0] σ K := by
  obtain ⟨i, v, n, rfl⟩ := hu
  have hlt0 := (List.getElem?_eq_some_iff.1 h0).1
  have hwok : [PV.ref i v 0 n, w].all PV.ok = true := by simp [PV.ok]; exact hw
  have hput : ∀ v, putC [PV.nils] 0 [v] = [v] := fun v => by unfold putC; first | rfl | (split <;> rfl) | simp
  have h1 : (σ ++ [AObj.arr 0 23 1 [.ref i v 0 n]])[b]? = some (.box [.nils]) := (List.getElem?_append_left hlt0).trans h0
  refine e162 (by simp) fun _ _ => ?_
  simp only [k162, argEnv, take6, List.drop_zero, Int.cast_ofNat_Int, go_sem, ↓reduceIte, Nat.reduceEqDiff, Nat.reduceAdd, Nat.reduceMul, Nat.reduceLeDiff, Nat.reduceLT, Int.reduceLE, Int.reduceLT, reduceCtorEq]
  try simp only [OpK_eq, hwok, h0, HKv, take6, List.drop_zero, Int.cast_ofNat_Int, go_sem, ↓reduceIte, Nat.reduceEqDiff, Nat.reduceAdd, Nat.reduceMul, Nat.reduceLeDiff, Nat.reduceLT, Int.reduceLE, Int.reduceLT, reduceCtorEq]
  refine ⟨hw, ?_⟩
  try simp only [OpK_eq, h1, hput, HKv, take6, List.drop_zero, Int.cast_ofNat_Int, go_sem, ↓reduceIte, Nat.reduceEqDiff, Nat.reduceAdd, Nat.reduceMul, Nat.reduceLeDiff, Nat.reduceLT, Int.reduceLE, Int.reduceLT, reduceCtorEq]
  exact Kv.Fin.now hK
theorem p162r (σ : Heap) (b : Nat) (u w : PV) (hu : ∃ i v n, u = .ref i v 0 n) (ul : List PV) (hl : ul.length ≤ 1000) (id ver : Nat) (hid : σ[id]? = some (.arr ver 23 1 ul)) (hne : id ≠ b) (h0 : σ[b]? = some (.box [.ref id ver 0 ul.length])) (hw : w.ok = true) (K : PV → Heap → Prop)
    (hK : K (.bool true) ((σ.set id (.arr (ver + 1) 23 1 (ul ++ [u]))).set b (.box [.ref id (ver + 1) 0 (ul.length + 1)]))) :
    ACall Try.prog 162 [.agg [u, w], .ptr b 0] σ K := by
  obtain ⟨i, v, n, rfl⟩ := hu
  have hlt0 := (List.getElem?_eq_some_iff.1 h0).1
  have hwok : [PV.ref i v 0 n, w].all PV.ok = true := by simp [PV.ok]; exact hw
  have hput : ∀ v, putC [PV.ref id ver 0 ul.length] 0 [v] = [v] := fun v => by unfold putC; first | rfl | (split <;> rfl) | simp
  have h1 : ∀ o, (σ.set id o)[b]? = some (.box [.ref id ver 0 ul.length]) := fun o => (List.getElem?_set_ne hne).trans h0
  refine e162 (by simp) fun _ _ => ?_
  simp only [k162, argEnv, take6, List.drop_zero, Int.cast_ofNat_Int, go_sem, ↓reduceIte, Nat.reduceEqDiff, Nat.reduceAdd, Nat.reduceMul, Nat.reduceLeDiff, Nat.reduceLT, Int.reduceLE, Int.reduceLT, reduceCtorEq]
  try simp only [OpK_eq, hwok, h0, HKv, take6, List.drop_zero, Int.cast_ofNat_Int, go_sem, ↓reduceIte, Nat.reduceEqDiff, Nat.reduceAdd, Nat.reduceMul, Nat.reduceLeDiff, Nat.reduceLT, Int.reduceLE, Int.reduceLT, reduceCtorEq]
  refine ⟨hw, ?_⟩
  have htk : ul.take ul.length = ul := List.take_length
  try simp only [OpK_eq, hid, h1, hput, HKv, htk, take6, List.drop_zero, Int.cast_ofNat_Int, go_sem, ↓reduceIte, Nat.reduceEqDiff, Nat.reduceAdd, Nat.reduceMul, Nat.reduceLeDiff, Nat.reduceLT, Int.reduceLE, Int.reduceLT, reduceCtorEq]
  exact ⟨⟨Nat.le_refl _, by omega⟩, Kv.Fin.now hK⟩
/-- The rows so far, behind the box b. -/
def SI (b : Nat) (x : Option Nat) (ul : List PV) (σ : Heap) : Prop :=
  match x with
  | none => σ[b]? = some (.box [.nils]) ∧ ul = []
  | some id => ∃ ver, σ[b]? = some (.box [.ref id ver 0 ul.length]) ∧ σ[id]? = some (.arr ver 23 1 ul) ∧ id ≠ b
def SU (b : Nat) (x : Option Nat) (id : Nat) : Prop := id = b ∨ x = some id
theorem SI.lt {b : Nat} {x : Option Nat} {ul : List PV} {σ : Heap} (h : SI b x ul σ) {id : Nat} (hu : SU b x id) : id < σ.length := by
  cases x with
  | none =>
    rcases hu with rfl | hU
    · exact (List.getElem?_eq_some_iff.1 h.1).1
    · cases hU
  | some id' =>
    obtain ⟨ver, h1, h2, h3⟩ := h
    rcases hu with rfl | hU
    · exact (List.getElem?_eq_some_iff.1 h1).1
    · simp only [Option.some.injEq] at hU; subst hU
      exact (List.getElem?_eq_some_iff.1 h2).1
theorem SI.keep {b : Nat} {x : Option Nat} {ul : List PV} {σ σ' : Heap} (h : SI b x ul σ) (hk : ∀ id, SU b x id → σ'[id]? = σ[id]?) : SI b x ul σ' := by
  have k0 := hk b (.inl rfl)
  cases x with
  | none => exact ⟨k0.trans h.1, h.2⟩
  | some id' =>
    obtain ⟨ver, h1, h2, h3⟩ := h
    exact ⟨ver, k0.trans h1, (hk id' (.inr rfl)).trans h2, h3⟩
theorem free_box1 {c : PV} (h : c.free) : AObj.free (.box [c]) := fun d hd => by
  simp only [List.mem_singleton] at hd; subst hd; exact h
theorem each_own (σ : Heap) (b : Nat) (x : Option Nat) (ul : List PV) (u w : PV) (hI : SI b x ul σ) (hl : ul.length ≤ 1000) (hu : ∃ i v n, u = .ref i v 0 n) (hw : w.ok = true) (hf : Free σ) (K : PV → Heap → Prop)
    (hK : ∀ x' σ', SI b x' (ul ++ [u]) σ' → σ.length ≤ σ'.length → (∀ id, id < σ.length → ¬ SU b x id → σ'[id]? = σ[id]? ∧ ¬ SU b x' id) → Free σ' → K (.bool true) σ') :
    ACall Try.prog 162 [.agg [u, w], .ptr b 0] σ K := by
  have huf : u.free ∧ u.cs = [u] := by obtain ⟨i, v, n, rfl⟩ := hu; exact ⟨free_ref _ _ _ _, rfl⟩
  cases x with
  | none =>
    obtain ⟨h1, h2⟩ := hI
    subst h2
    have hlt := (List.getElem?_eq_some_iff.1 h1).1
    refine p162n σ b u w hu h1 hw K (hK (some σ.length) _ ⟨0, ?_, ?_, by omega⟩ (by simp) (fun id hid hu => ⟨?_, ?_⟩) ?_)
    · exact List.getElem?_set_self (by simp; omega)
    · show _ = some (AObj.arr 0 23 1 [u])
      rw [List.getElem?_set_ne (by omega)]; simp
    · rw [List.getElem?_set_ne (fun e => hu (.inl e.symm)), List.getElem?_append_left hid]
    · rintro (rfl | h)
      · exact hu (.inl rfl)
      · simp only [Option.some.injEq] at h; omega
    · refine Free.set (hf.append fun o ho => ?_) _ (free_box1 (free_ref _ _ _ _))
      simp only [List.mem_singleton] at ho; subst ho
      intro c hc
      simp only [flat_cons, flat_nil, List.append_nil, huf.2, List.mem_singleton] at hc
      subst hc; exact huf.1
  | some id' =>
    obtain ⟨ver, h1, h2, h3⟩ := hI
    have hlt := (List.getElem?_eq_some_iff.1 h1).1
    have hlt2 := (List.getElem?_eq_some_iff.1 h2).1
    refine p162r σ b u w hu ul hl id' ver h2 h3 h1 hw K (hK (some id') _ ⟨ver + 1, ?_, ?_, h3⟩ (by simp) (fun id hid hu => ⟨?_, hu⟩) ?_)
    · rw [List.length_append, List.length_singleton]
      exact List.getElem?_set_self (by simpa using hlt)
    · rw [List.getElem?_set_ne (Ne.symm h3), List.getElem?_set_self hlt2]
    · rw [List.getElem?_set_ne (fun e => hu (.inl e.symm)), List.getElem?_set_ne (fun e => hu (.inr (by rw [e])))]
    · refine Free.set (Free.set hf _ ?_) _ (free_box1 (free_ref _ _ _ _))
      intro c hc
      rw [flat_append, List.mem_append] at hc
      rcases hc with hc | hc
      · exact hf _ (List.mem_of_getElem? h2) c hc
      · simp only [flat_cons, flat_nil, List.append_nil, huf.2, List.mem_singleton] at hc
        subst hc; exact huf.1
end Go.Proofs.Ytpepbomifjbgnaa
