/- Several texts of this session as one, less what the claim does not need. -/
import Derived.Test.YthbbjbfbeaiphaaGreatCb
import Derived.Test.YthbbjbfbeaiphaaGreatZ9
import Derived.Test.YthbbjbfbeaiphaaGreatZ11
import Derived.Test.YthbbjbfbeaiphaaGreatZ7
import Derived.Test.YthbbjbfbeaiphaaGreatZ10
import Derived.Test.YthbbjbfbeaiphaaGreatZ5
import Derived.Test.YthbbjbfbeaiphaaGreatZ8
import Derived.Test.YthbbjbfbeaiphaaGreatZ6
section
namespace Go.Proofs.YthbbjbfbeaiphaaGreat
open Go.Kv
set_option maxRecDepth 100000
def k187 : KC := (.seq (.ops [oP 2 (.box true (.t 0)), oP 3 (.mv (.c (.bool false)))])
 (.seq (.ops [oP 4 (.load false 1 (.t 1)), oP 5 (.fieldA 0 (.t 2)), oP 6 (.load false 1 (.t 5)), oP 7 (.bsl true 27 1 [(.t 6)]), oP 8 (.app (.t 4) (.t 7) 27 1), ⟨none, none, .store 1 (.t 1) (.t 8)⟩])
 (.seq (.ops [oP 3 (.mv (.c (.bool true)))])
 .ret)))
theorem e187 : Ent 187 9 [2, 7] [.t 3] k187 := ent Tryz.func187 (by kernel_rfl) (by kernel_rfl) (by kernel_rfl) (fun _ => by kernel_rfl) (by kernel_rfl)
end Go.Proofs.YthbbjbfbeaiphaaGreat
namespace Go.Proofs.YthbbjbfbeaiphaaGreat
open Go.Kv
set_option linter.unusedVariables false
set_option linter.unusedSimpArgs false
attribute [local irreducible] ACall PCall KL
theorem image_ownL (f : List Nat) (n : Nat) (hf : Ok f n) (l : List Nat) (hl : ∀ x ∈ l, x < n) (h1 : 1 ≤ l.length) (h12 : l.length ≤ 12) : ACall Tryz.prog 92 [.agg (ints (mp f)), .list (ints (l.map fun x : Nat => (x : Int)))] [] (fun v s => ∃ ver post, v = .ref 0 ver 0 (imgs f l).length ∧ s = [.arr ver 2 1 (ints (imgs f l ++ post))]) := by
 have hlf := hf.mp_len
 have h5 := hf.le
 refine e92 (by simp) fun _ _ => ?_
 simp only [k92, argEnv, hlf, List.length_map, go_sem]
 refine KL_ind k92_b0.eq_1 (fun x : Nat => [(2, .fptr (ints (mp f)) 0), (5, nref 0 x), (8, .list (ints (l.map fun x : Nat => (x : Int)))), (9, .int .i64 l.length), (10, .int .i64 x)]) (fun x => nhp [.arr (x - 1) 2 1 (ints ((l.take x).map fun p => (f.getD p 0 : Int)))] x) (fun x => x ≤ l.length) (fun x => l.length - x) [2, 5, 8, 9, 10] 0 (by rfl) (by rfl) (Nat.zero_le _) fun x hx ih => ?_
 have hgl : ∀ x, x < l.length → l.getD x 0 < n := fun x hx => by
  rw [List.getD_eq_getElem?_getD, List.getElem?_eq_getElem hx]
  exact hl _ (List.getElem_mem hx)
 have hsn : ∀ x, x < l.length → (l.take (x + 1)).map (fun p => (f.getD p 0 : Int)) = (l.take x).map (fun p => (f.getD p 0 : Int)) ++ [(f.getD (l.getD x 0) 0 : Int)] := fun x hx => by
  rw [List.take_succ_eq_append_getElem hx, List.map_append]
  simp [List.getD_eq_getElem?_getD, hx]
 have hn0 : ∀ k : Nat, (k : Int).toNat = k := fun k => by omega
 try simp only [hlf, natD, List.length_map, hn0, go_sem]
 refine ⟨fun h2 => ?_, fun h2 => ?_⟩
 ·have hxl : x < l.length := by omega
  have hgx := hgl x hxl
  rcases x with _ | x
  ·try simp only [hlf, natD, List.length_map, hn0, go_sem]
   refine ⟨by omega, fun _ => ⟨by omega, by omega, fun _ => ⟨by omega, ih 1 (by omega) (by omega) _ _ (by rfl) ?_⟩⟩⟩
   show _ = [AObj.arr 0 2 1 (ints ((l.take (0 + 1)).map fun p => (f.getD p 0 : Int)))]
   rw [hsn 0 hxl]; rfl
  ·have hlt : (l.take (x + 1)).length = x + 1 := by simp; omega
   try simp only [hlf, natD, List.length_map, hn0, hlt, go_sem]
   refine ⟨by omega, fun _ => ⟨by omega, by omega, fun _ => ⟨by omega, by omega, ih (x + 1 + 1) (by omega) (by omega) _ _ (by rfl) ?_⟩⟩⟩
   show _ = [AObj.arr (x + 1) 2 1 (ints ((l.take (x + 1 + 1)).map fun p => (f.getD p 0 : Int)))]
   rw [hsn (x + 1) hxl, List.take_of_length_le (by simp; omega)]
 ·obtain rfl : x = l.length := by omega
  rw [nref_pos (by omega), nhp_pos (by omega), List.take_length]
  try simp only [go_sem]
  refine sortN _ 0 (l.length - 1) 2 (l.map fun p => (f.getD p 0 : Int)) l.length (by simp) rfl (by simp; omega) fun r hp hS => ?_
  have hrl : l.length = r.length := by have := hp.length_eq; simpa using this.symm
  try simp only [go_sem]
  refine compactN _ 0 (l.length - 1) 2 r l.length hrl rfl (by omega) fun post => ?_
  try simp only [go_sem]
  have hr := srt_eq hp hS
  subst hr
  exact Kv.Fin.now ⟨_, _, rfl, rfl⟩
theorem image_own (f : List Nat) (n : Nat) (hf : Ok f n) {p : List Int} (hp : asc n p) : ACall Tryz.prog 92 [.agg (ints (mp f)), .list (ints p)] [] (fun v s => ∃ ver post, v = .ref 0 ver 0 (img f p).length ∧ s = [.arr ver 2 1 (ints (img f p ++ post))]) := by
 have hl := asc_len hp
 have h5 := hf.le
 obtain ⟨l, rfl, _, h1, _⟩ := hp
 rw [List.length_map] at hl
 have := image_ownL f n hf l h1 (by omega) (by omega)
 unfold img
 rwa [toNat_map]
def Ow (σ : Heap) (A : Nat → Prop) (u : PV) (p : List Int) : Prop := ∃ id ver post, u = .ref id ver 0 p.length ∧ σ[id]? = some (.arr ver 2 1 (ints (p ++ post))) ∧ ¬ A id
def rid : PV → Nat
 | .ref id _ _ _ => id
 | _ => 0
theorem Ow.imm {σ : Heap} {A : Nat → Prop} {u : PV} {p : List Int} (h : Ow σ A u p) : Imm σ u (.list (ints p)) := by
 obtain ⟨id, ver, post, rfl, h, _⟩ := h
 exact Imm.refp (pre := []) (post := post) h rfl rfl
theorem Ow.keep {σ σ' : Heap} {A A' : Nat → Prop} {u : PV} {p : List Int} (h : Ow σ A u p) (hk : ∀ id, id < σ.length → ¬ A id → σ'[id]? = σ[id]? ∧ ¬ A' id) : Ow σ' A' u p := by
 obtain ⟨id, ver, post, rfl, h, ha⟩ := h
 have := hk id (List.getElem?_eq_some_iff.1 h).1 ha
 exact ⟨id, ver, post, rfl, this.1.trans h, this.2⟩
theorem Ow.rid {σ : Heap} {A : Nat → Prop} {u : PV} {p : List Int} (h : Ow σ A u p) : rid u < σ.length := by
 obtain ⟨id, ver, post, rfl, h, _⟩ := h
 exact (List.getElem?_eq_some_iff.1 h).1
theorem Ow.ok {σ : Heap} {A : Nat → Prop} {u : PV} {p : List Int} (h : Ow σ A u p) : u.cs = [u] ∧ u.ok = true ∧ u.free := by
 obtain ⟨id, ver, post, rfl, h, _⟩ := h
 exact ⟨rfl, rfl, free_ref _ _ _ _⟩
theorem Wd.fr {σ : Heap} {A : Nat → Prop} {w : PV} {l : List Int} (h : Wd σ A w l) : w.free := by
 rcases h with ⟨rfl, _⟩ | ⟨id, ver, rfl, _, _⟩
 ·exact Plain.nils.fr
 ·exact free_ref _ _ _ _
def ocell (u w : PV) : PV := .agg [u, w]
structure QH (σ : Heap) (A : Nat → Prop) (q ver : Nat) (us ws : List PV) (L : List Met) : Prop where
 out : σ[q]? = some (.arr ver 166 2 (List.zipWith ocell us ws))
 lu : us.length = L.length
 lw : ws.length = L.length
 row : ∀ (i : Nat) (u w : PV) (m : Met), us[i]? = some u → ws[i]? = some w → L[i]? = some m → Ow σ (fun id => A id ∨ id = q) u m.1 ∧ Wd σ (fun id => A id ∨ id = q) w m.2
 nd : (us.map rid).Nodup
theorem QH.cell {σ : Heap} {A : Nat → Prop} {q ver : Nat} {us ws : List PV} {L : List Met} (h : QH σ A q ver us ws L) {i : Nat} (hi : i < L.length) : ∃ u w, us[i]? = some u ∧ ws[i]? = some w ∧ (List.zipWith ocell us ws)[i]? = some (ocell u w) ∧ Ow σ (fun id => A id ∨ id = q) u L[i].1 ∧ Wd σ (fun id => A id ∨ id = q) w L[i].2 := by
 have hu : i < us.length := by rw [h.lu]; exact hi
 have hw : i < ws.length := by rw [h.lw]; exact hi
 have := h.row i us[i] ws[i] L[i] (by simp [hu]) (by simp [hw]) (by simp [hi])
 exact ⟨us[i], ws[i], by simp [hu], by simp [hw], by simp [List.getElem?_zipWith, hw, hu], this.1, this.2⟩
theorem QH.imm {σ : Heap} {A : Nat → Prop} {q ver : Nat} {us ws : List PV} {L : List Met} (h : QH σ A q ver us ws L) : Imm σ (.ref q ver 0 L.length) (.list (mets L)) := by
 refine .ref q ver 0 L.length 166 2 _ (mets L) h.out (by simp [h.lu, h.lw]) (mets_length L) (fun i x d hx hd => ?_) (fun i x d j c c' hx hd hc hc' => ?_)
 all_goals
  rw [Nat.zero_add] at hx
  have hi : i < L.length := by have := (List.getElem?_eq_some_iff.1 hd).1; simpa using this
  obtain ⟨u, w, hu, hw, hc0, hU, hW⟩ := h.cell hi
  rw [hc0] at hx; cases hx
  rw [mets_get hi] at hd; cases hd
 ·exact ⟨rfl, by simp [mcell, PV.cs, PV.ok]⟩
 ·rcases j with _ | _ | j
  ·simp only [ocell, mcell, PV.cs, List.getElem?_cons_zero, Option.some.injEq] at hc hc'
   subst hc; subst hc'
   exact hU.imm
  ·simp only [ocell, mcell, PV.cs, List.getElem?_cons_succ, List.getElem?_cons_zero, Option.some.injEq] at hc hc'
   subst hc; subst hc'
   exact hW.imm
  ·simp [ocell, PV.cs] at hc
theorem QH.keep {σ σ' : Heap} {A A' : Nat → Prop} {q ver : Nat} {us ws : List PV} {L : List Met} (h : QH σ A q ver us ws L) (hq : ¬ A q) (hk : ∀ id, id < σ.length → ¬ A id → σ'[id]? = σ[id]? ∧ ¬ A' id) : QH σ' A' q ver us ws L where
 out := (hk q (List.getElem?_eq_some_iff.1 h.out).1 hq).1.trans h.out
 lu := h.lu
 lw := h.lw
 nd := h.nd
 row := fun i u w m hu hw hm => by
  have hk2 : ∀ id, id < σ.length → ¬ (A id ∨ id = q) → σ'[id]? = σ[id]? ∧ ¬ (A' id ∨ id = q) := fun id hid hA => by
   simp only [not_or] at hA ⊢
   exact ⟨(hk id hid hA.1).1, (hk id hid hA.1).2, hA.2⟩
  obtain ⟨h1, h2⟩ := h.row i u w m hu hw hm
  exact ⟨h1.keep hk2, h2.keep hk2⟩
theorem QH.fr {σ : Heap} {A : Nat → Prop} {q ver : Nat} {us ws : List PV} {L : List Met} (h : QH σ A q ver us ws L) {v : Nat} {e : TypeId} {s : Nat} : AObj.free (.arr v e s (List.zipWith ocell us ws)) := fun c hc => by
 obtain ⟨x, hx, hcx⟩ := List.mem_flatMap.1 hc
 obtain ⟨i, hi⟩ := List.getElem?_of_mem hx
 have hil : i < L.length := by
  have := (List.getElem?_eq_some_iff.1 hi).1
  rw [List.length_zipWith, h.lu, h.lw] at this
  omega
 obtain ⟨u, w, hu, hw, hc0, hU, hW⟩ := h.cell hil
 rw [hc0] at hi; cases hi
 simp only [ocell, PV.cs, List.mem_cons, List.not_mem_nil, or_false] at hcx
 rcases hcx with rfl | rfl
 ·exact hU.ok.2.2
 ·exact hW.fr
theorem QH.push {σ : Heap} {A : Nat → Prop} {q ver : Nat} {us ws : List PV} {L : List Met} (h : QH σ A q ver us ws L) {p l : List Int} {u w : PV} (hu : Ow σ (fun id => A id ∨ id = q) u p) (hw : Wd σ (fun id => A id ∨ id = q) w l) (hn : rid u ∉ us.map rid) (hl : L.length ≤ 1000) {K : PV → Heap → Prop}
  (hK : QH (σ.set q (.arr (ver + 1) 166 2 (List.zipWith ocell us ws ++ [ocell u w]))) A q (ver + 1) (us ++ [u]) (ws ++ [w]) (L ++ [(p, l)]) → K (.ref q (ver + 1) 0 (L.length + 1)) (σ.set q (.arr (ver + 1) 166 2 (List.zipWith ocell us ws ++ [ocell u w])))) :
  aApp 166 2 (.ref q ver 0 L.length) (.list [.agg [u, w]]) σ K := by
 have hlt := (List.getElem?_eq_some_iff.1 h.out).1
 have hzl : (List.zipWith ocell us ws).length = L.length := by simp [h.lu, h.lw]
 have hok : okL 2 [PV.agg [u, w]] = True := by
  obtain ⟨_, _, _, rfl, _, _⟩ := hu
  rcases hw with ⟨rfl, rfl⟩ | ⟨id, ver, rfl, _, _⟩ <;> simp [okL, PV.cs, PV.ok]
 have hQ : QH (σ.set q (.arr (ver + 1) 166 2 (List.zipWith ocell us ws ++ [ocell u w]))) A q (ver + 1) (us ++ [u]) (ws ++ [w]) (L ++ [(p, l)]) := by
  refine ⟨?_, by simp [h.lu], by simp [h.lw], fun i u' w' m hu' hw' hm => ?_, ?_⟩
  ·rw [List.getElem?_set_self hlt, List.zipWith_append (by rw [h.lu, h.lw])]
   rfl
  ·have hset : ∀ id, id < σ.length → ¬ (A id ∨ id = q) → (σ.set q (.arr (ver + 1) 166 2 (List.zipWith ocell us ws ++ [ocell u w])))[id]? = σ[id]? ∧ ¬ (A id ∨ id = q) := fun id _ hA => by
    refine ⟨List.getElem?_set_ne ?_, hA⟩
    rintro rfl; exact hA (.inr rfl)
   rw [List.getElem?_append] at hu' hw' hm
   split at hu'
   ·rename_i hi
    rw [if_pos (by rw [← h.lu]; exact hi)] at hm
    rw [if_pos (by rw [h.lw, ← h.lu]; exact hi)] at hw'
    obtain ⟨h1, h2⟩ := h.row i u' w' m hu' hw' hm
    exact ⟨h1.keep hset, h2.keep hset⟩
   ·rename_i hi
    rw [if_neg (by rw [← h.lu]; exact hi)] at hm
    rw [if_neg (by rw [h.lw, ← h.lu]; exact hi)] at hw'
    have e1 := List.mem_of_getElem? hw'
    have e2 := List.mem_of_getElem? hm
    have e3 := List.mem_of_getElem? hu'
    simp only [List.mem_singleton] at e1 e2 e3
    subst e1; subst e2; subst e3
    exact ⟨hu.keep hset, hw.keep hset⟩
  ·rw [List.map_append, List.nodup_append]
   refine ⟨h.nd, by simp, fun a ha b hb => ?_⟩
   simp only [List.map_cons, List.map_nil, List.mem_singleton] at hb
   subst hb
   exact fun e => hn (e ▸ ha)
 simp only [aApp_ref, h.out, AppR_arr, aNews_list, hok, true_and, AppM_def]
 rw [List.take_of_length_le (by omega)]
 exact ⟨⟨by omega, by simp; omega⟩, hK hQ⟩
theorem p187n (σ : Heap) (b : Nat) (u w : PV) (hu : ∃ i v n, u = .ref i v 0 n) (h0 : σ[b]? = some (.box [.nils])) (hw : w.ok = true) (K : PV → Heap → Prop)
  (hK : K (.bool true) ((σ ++ [AObj.arr 0 27 1 [u]]).set b (AObj.box [.ref σ.length 0 0 1]))) :
  ACall Tryz.prog 187 [.agg [u, w], .ptr b 0] σ K := by
 obtain ⟨i, v, n, rfl⟩ := hu
 have hlt0 := (List.getElem?_eq_some_iff.1 h0).1
 have hwok : [PV.ref i v 0 n, w].all PV.ok = true := by simp [PV.ok]; exact hw
 have hput : ∀ v, putC [PV.nils] 0 [v] = [v] := fun v => by unfold putC; first | rfl | (split <;> rfl) | simp
 have h1 : (σ ++ [AObj.arr 0 27 1 [.ref i v 0 n]])[b]? = some (.box [.nils]) := (List.getElem?_append_left hlt0).trans h0
 refine e187 (by simp) fun _ _ => ?_
 simp only [k187, argEnv, go_sem]
 try simp only [OpK_eq, hwok, h0, HKv, go_sem]
 refine ⟨hw, ?_⟩
 try simp only [OpK_eq, h1, hput, HKv, go_sem]
 exact Kv.Fin.now hK
theorem p187r (σ : Heap) (b : Nat) (u w : PV) (hu : ∃ i v n, u = .ref i v 0 n) (ul : List PV) (hl : ul.length ≤ 1000) (id ver : Nat) (hid : σ[id]? = some (.arr ver 27 1 ul)) (hne : id ≠ b) (h0 : σ[b]? = some (.box [.ref id ver 0 ul.length])) (hw : w.ok = true) (K : PV → Heap → Prop)
  (hK : K (.bool true) ((σ.set id (.arr (ver + 1) 27 1 (ul ++ [u]))).set b (.box [.ref id (ver + 1) 0 (ul.length + 1)]))) :
  ACall Tryz.prog 187 [.agg [u, w], .ptr b 0] σ K := by
 obtain ⟨i, v, n, rfl⟩ := hu
 have hlt0 := (List.getElem?_eq_some_iff.1 h0).1
 have hwok : [PV.ref i v 0 n, w].all PV.ok = true := by simp [PV.ok]; exact hw
 have hput : ∀ v, putC [PV.ref id ver 0 ul.length] 0 [v] = [v] := fun v => by unfold putC; first | rfl | (split <;> rfl) | simp
 have h1 : ∀ o, (σ.set id o)[b]? = some (.box [.ref id ver 0 ul.length]) := fun o => (List.getElem?_set_ne hne).trans h0
 refine e187 (by simp) fun _ _ => ?_
 simp only [k187, argEnv, go_sem]
 try simp only [OpK_eq, hwok, h0, HKv, go_sem]
 refine ⟨hw, ?_⟩
 have htk : ul.take ul.length = ul := List.take_length
 try simp only [OpK_eq, hid, h1, hput, HKv, htk, go_sem]
 exact ⟨⟨Nat.le_refl _, by omega⟩, Kv.Fin.now hK⟩
def SI (b : Nat) (x : Option Nat) (ul : List PV) (σ : Heap) : Prop :=
 match x with
 | none => σ[b]? = some (.box [.nils]) ∧ ul = []
 | some id => ∃ ver, σ[b]? = some (.box [.ref id ver 0 ul.length]) ∧ σ[id]? = some (.arr ver 27 1 ul) ∧ id ≠ b
def SU (b : Nat) (x : Option Nat) (id : Nat) : Prop := id = b ∨ x = some id
theorem SI.lt {b : Nat} {x : Option Nat} {ul : List PV} {σ : Heap} (h : SI b x ul σ) {id : Nat} (hu : SU b x id) : id < σ.length := by
 cases x with
 | none =>
  rcases hu with rfl | hU
  ·exact (List.getElem?_eq_some_iff.1 h.1).1
  ·cases hU
 | some id' =>
  obtain ⟨ver, h1, h2, h3⟩ := h
  rcases hu with rfl | hU
  ·exact (List.getElem?_eq_some_iff.1 h1).1
  ·simp only [Option.some.injEq] at hU; subst hU
   exact (List.getElem?_eq_some_iff.1 h2).1
theorem SI.keep {b : Nat} {x : Option Nat} {ul : List PV} {σ σ' : Heap} (h : SI b x ul σ) (hk : ∀ id, SU b x id → σ'[id]? = σ[id]?) : SI b x ul σ' := by
 have k0 := hk b (.inl rfl)
 cases x with
 | none => exact ⟨k0.trans h.1, h.2⟩
 | some id' =>
  obtain ⟨ver, h1, h2, h3⟩ := h
  exact ⟨ver, k0.trans h1, (hk id' (.inr rfl)).trans h2, h3⟩
theorem free_box1 {c : PV} (h : c.free) : AObj.free (.box [c]) := fun d hd => by
 simp only [List.mem_singleton] at hd; subst hd; exact h
theorem each_own (σ : Heap) (b : Nat) (x : Option Nat) (ul : List PV) (u w : PV) (hI : SI b x ul σ) (hl : ul.length ≤ 1000) (hu : ∃ i v n, u = .ref i v 0 n) (hw : w.ok = true) (hf : Free σ) (K : PV → Heap → Prop)
  (hK : ∀ x' σ', SI b x' (ul ++ [u]) σ' → σ.length ≤ σ'.length → (∀ id, id < σ.length → ¬ SU b x id → σ'[id]? = σ[id]? ∧ ¬ SU b x' id) → Free σ' → K (.bool true) σ') :
  ACall Tryz.prog 187 [.agg [u, w], .ptr b 0] σ K := by
 have huf : u.free ∧ u.cs = [u] := by obtain ⟨i, v, n, rfl⟩ := hu; exact ⟨free_ref _ _ _ _, rfl⟩
 cases x with
 | none =>
  obtain ⟨h1, h2⟩ := hI
  subst h2
  have hlt := (List.getElem?_eq_some_iff.1 h1).1
  refine p187n σ b u w hu h1 hw K (hK (some σ.length) _ ⟨0, ?_, ?_, by omega⟩ (by simp) (fun id hid hu => ⟨?_, ?_⟩) ?_)
  ·exact List.getElem?_set_self (by simp; omega)
  ·show _ = some (AObj.arr 0 27 1 [u])
   rw [List.getElem?_set_ne (by omega)]; simp
  ·rw [List.getElem?_set_ne (fun e => hu (.inl e.symm)), List.getElem?_append_left hid]
  ·rintro (rfl | h)
   ·exact hu (.inl rfl)
   ·simp only [Option.some.injEq] at h; omega
  ·refine Free.set (hf.append fun o ho => ?_) _ (free_box1 (free_ref _ _ _ _))
   simp only [List.mem_singleton] at ho; subst ho
   intro c hc
   simp only [flat_cons, flat_nil, List.append_nil, huf.2, List.mem_singleton] at hc
   subst hc; exact huf.1
 | some id' =>
  obtain ⟨ver, h1, h2, h3⟩ := hI
  have hlt := (List.getElem?_eq_some_iff.1 h1).1
  have hlt2 := (List.getElem?_eq_some_iff.1 h2).1
  refine p187r σ b u w hu ul hl id' ver h2 h3 h1 hw K (hK (some id') _ ⟨ver + 1, ?_, ?_, h3⟩ (by simp) (fun id hid hu => ⟨?_, hu⟩) ?_)
  ·rw [List.length_append, List.length_singleton]
   exact List.getElem?_set_self (by simpa using hlt)
  ·rw [List.getElem?_set_ne (Ne.symm h3), List.getElem?_set_self hlt2]
  ·rw [List.getElem?_set_ne (fun e => hu (.inl e.symm)), List.getElem?_set_ne (fun e => hu (.inr (by rw [e])))]
  ·refine Free.set (Free.set hf _ ?_) _ (free_box1 (free_ref _ _ _ _))
   intro c hc
   rw [flat_append, List.mem_append] at hc
   rcases hc with hc | hc
   ·exact hf _ (List.mem_of_getElem? h2) c hc
   ·simp only [flat_cons, flat_nil, List.append_nil, huf.2, List.mem_singleton] at hc
    subst hc; exact huf.1
end Go.Proofs.YthbbjbfbeaiphaaGreat
end
section
namespace Go.Proofs.YthbbjbfbeaiphaaGreat
open Go.Kv
set_option maxRecDepth 100000
def k154 : KC := (.seq (.ops [oP 4 (.mv (.c (.nils)))])
 (.seq (.ops [oP 5 (.alloc [.nils])])
 (.seq (.ops [mV 6 0, mV 7 1, oP 8 (.mkfn (.func 187) [] [(.t 5)]), oP 9 (.call (fC 151) [(.t 6), (.t 7), (fC 92), (.t 8)])])
 (.seq (.ops [oP 10 (.load false 1 (.t 5)), mV 4 10])
 .ret))))
theorem e154 : Ent 154 11 [] [.t 4] k154 := ent Tryz.func154 (by kernel_rfl) (by kernel_rfl) (by kernel_rfl) (fun _ => by kernel_rfl) (by kernel_rfl)
end Go.Proofs.YthbbjbfbeaiphaaGreat
namespace Go.Proofs.YthbbjbfbeaiphaaGreat
open Go.Kv
set_option linter.unusedVariables false
set_option linter.unusedSimpArgs false
attribute [local irreducible] ACall PCall KL
theorem bl_wq (fs : List (List Nat)) (p : List Int) : ∀ i, bl fs img p i = wq fs p i
 | 0 => rfl
 | i + 1 => by
  have ih := bl_wq fs p i
  show bl fs img p (i + 1) = (bq fs img (fun (_ : Unit) _ => ()) ([(p, [])], ()) (i + 1)).1
  have ih : bl fs img p i = (bq fs img (fun (_ : Unit) _ => ()) ([(p, [])], ()) i).1 := ih
  rw [bl, bq, ih]
  split <;> rfl
set_option maxHeartbeats 8000000 in
theorem search_own (fs : List (List Nat)) (n : Nat) (hn5 : n ≤ 5) (hf : ∀ f ∈ fs, Ok f n) (hfl : fs.length ≤ 1000) (b0 : Nat) (p0 : List Int) (hp0 : asc n p0) (u0 : PV) (N : Nat) (hN : N ≤ 900) (hB : ∀ i, (bl fs img p0 i).length ≤ N)
  (σ0 : Heap) (hI0 : SI b0 none [] σ0) (hO0 : Ow σ0 (SU b0 none) u0 p0) (hF0 : Free σ0) (K : PV → Heap → Prop)
  (hK : ∀ i, i = (bl fs img p0 i).length → ∀ x us σ, SI b0 x us σ → us.length = (bl fs img p0 i).length → (∀ (j : Nat) u m, us[j]? = some u → (bl fs img p0 i)[j]? = some m → Ow σ (SU b0 x) u m.1) → (us.map rid).Nodup → Free σ → K (.tup []) σ) :
  ACall Tryz.prog 151 [.list (aggs (fs.map mp)), u0, .fn (.func 92) [] [], .fn (.func 187) [] [.ptr b0 0]] σ0 K := by
 have hokl : ∀ p, asc n p → p.length ≤ 1000 := fun p hp => by
  have h1 := asc_len hp
  omega
 generalize hs : bl fs img p0 = S at *
 have hS0 : S 0 = [(p0, [])] := by rw [← hs]; rfl
 have hSs : ∀ i (h : i < (S i).length), S (i + 1) = advN fs img (S i) (S i)[i] fs.length := by
  rw [← hs]; exact fun i h => bl_succ h
 have hO0' := hO0
 obtain ⟨idf, verf, postf, rfl, hof, hnf⟩ := hO0'
 have hidf := (List.getElem?_eq_some_iff.1 hof).1
 refine e151 (by simp) fun _ _ => ?_
 simp only [k151, argEnv, go_sem]
 try simp only [go_sem]
 generalize hq : σ0.length = q at *
 refine KL_ind k151_b1.eq_1 (fun x : Nat × Nat × List PV × List PV × Option Nat × Heap => [(0, .list (aggs (fs.map mp))), (2, .fn (.func 92) [] []), (3, .fn (.func 187) [] [.ptr b0 0]), (8, .ref q x.2.1 0 (S x.1).length), (9, .int .i64 x.1)]) (fun x => x.2.2.2.2.2)
  (fun x => x.1 ≤ (S x.1).length ∧ SI b0 x.2.2.2.2.1 (x.2.2.1.take x.1) x.2.2.2.2.2 ∧ ¬ SU b0 x.2.2.2.2.1 q ∧ QH x.2.2.2.2.2 (SU b0 x.2.2.2.2.1) q x.2.1 x.2.2.1 x.2.2.2.1 (S x.1) ∧ Free x.2.2.2.2.2 ∧ (∀ m ∈ S x.1, asc n m.1 ∧ m.2.length + 1 ≤ (S x.1).length)) (fun x => N + 1 - x.1) [0, 2, 3, 8, 9]
  (0, 0, [.ref idf verf 0 p0.length], [.nils], none, σ0 ++ [.arr 0 166 2 [.agg [.ref idf verf 0 p0.length, .nils]]]) ?_ rfl ?_ fun ⟨i, ver, us, ws, x, σ⟩ ⟨hi, hI, hUq, hG, hF, hok⟩ ih => ?_
 ·simp [keep, hS0]
 ·have hU0 : ¬ SU b0 none q := fun h => by
   have := SI.lt hI0 h
   omega
  refine ⟨Nat.zero_le _, ?_, hU0, ?_, ?_, ?_⟩
  ·show SI b0 none [] _
   exact hI0.keep fun id hid => List.getElem?_append_left (SI.lt hI0 hid)
  ·show QH _ _ q 0 [_] [.nils] (S 0)
   rw [hS0]
   refine ⟨by simp [← hq, ocell], rfl, rfl, fun i u w m hu hw hm => ⟨?_, .inl ⟨?_, ?_⟩⟩, by simp⟩
   ·have h1 := List.mem_of_getElem? hu
    have h2 := List.mem_of_getElem? hm
    simp only [List.mem_singleton] at h1 h2
    subst h1; subst h2
    refine hO0.keep fun id hid hA => ⟨List.getElem?_append_left hid, ?_⟩
    rintro (h | h)
    ·exact hA h
    ·omega
   ·have := List.mem_of_getElem? hw; simpa using this
   ·have := List.mem_of_getElem? hm
    simp only [List.mem_singleton] at this; rw [this]
  ·refine hF0.append fun o ho => ?_
   simp only [List.mem_singleton] at ho; subst ho
   intro c hc
   simp only [flat_cons, flat_nil, PV.cs, List.append_nil, List.mem_cons, List.not_mem_nil, or_false] at hc
   rcases hc with rfl | rfl
   ·exact free_ref _ _ _ _
   ·exact Plain.nils.fr
  ·intro m hm
   have hm : m ∈ S 0 := hm
   show asc n m.1 ∧ m.2.length + 1 ≤ (S 0).length
   rw [hS0] at hm ⊢
   simp only [List.mem_singleton] at hm
   subst hm
   exact ⟨hp0, by simp⟩
 ·simp only at hi hI hUq hG hF hok
  have hBi := hB i
  have hout := hG.out
  have hqlt := (List.getElem?_eq_some_iff.1 hout).1
  have hzl : (List.zipWith ocell us ws).length = (S i).length := by simp [hG.lu, hG.lw]
  try simp only [OpK_eq, hout, hzl, go_sem]
  refine ⟨fun h1 => ?_, fun h1 => ?_⟩
  ·have hil : i < (S i).length := by omega
   obtain ⟨u, w, hu, hw, hcell, hOu, hW⟩ := hG.cell hil
   have hSi := hSs i hil
   have hmem := hok _ (List.getElem_mem hil)
   have htk : us.take (i + 1) = us.take i ++ [u] := by
    have hiu := (List.getElem?_eq_some_iff.1 hu)
    rw [List.take_succ_eq_append_getElem hiu.1, hiu.2]
   have htl : (us.take i).length ≤ 1000 := by rw [List.length_take]; omega
   generalize hm : (S i)[i] = m at *
   have hsub : subC (ocell u w).cs 0 2 = [u, w] := subC2 _ _
   have hput : putC [.nils, .nils] 0 [u, w] = [u, w] := putC2 _ _ _ _
   have hwok : [u, w].all PV.ok = true := by
    have := hOu.ok.2.1
    have := hW.cs.2
    simp [*]
   have hu3 : ∃ i v n, u = .ref i v 0 n := by
    obtain ⟨a, b, c, e, _, _⟩ := hOu
    exact ⟨a, b, _, e⟩
   refine ⟨⟨h1, Nat.le_refl _⟩, hil, fun x hx => ?_⟩
   rw [hcell] at hx; cases hx
   rw [hsub, hput, subC2]
   refine ⟨Nat.le_refl _, ⟨rfl, hwok⟩, Nat.le_refl _, ?_⟩
   have hlt1 : ∀ id, id < σ.length → (σ ++ [AObj.box [u, w]])[id]? = σ[id]? := fun id h => List.getElem?_append_left h
   have hI1 : SI b0 x (us.take i) (σ ++ [AObj.box [u, w]]) := hI.keep (fun id hid => hlt1 id (SI.lt hI hid))
   have hF1 : Free (σ ++ [AObj.box [u, w]]) := hF.append fun o ho => by
    simp only [List.mem_singleton] at ho; subst ho
    intro c hc
    simp only [List.mem_cons, List.not_mem_nil, or_false] at hc
    rcases hc with rfl | rfl
    ·exact hOu.ok.2.2
    ·exact hW.fr
   refine each_own _ b0 x _ u w hI1 htl hu3 hW.cs.2 hF1 _ fun x' σ' hI' hle hkeep hF' => ?_
   rw [← htk] at hI'
   have hb10 : σ'[σ.length]? = some (.box [u, w]) := by
    rw [(hkeep σ.length (by simp) (fun hu => by have := SI.lt hI hu; omega)).1]
    simp
   have hkeep2 : ∀ id, id < σ.length → ¬ SU b0 x id → σ'[id]? = σ[id]? ∧ ¬ SU b0 x' id := fun id hid hu => by
    obtain ⟨k1, k2⟩ := hkeep id (by simp; omega) hu
    exact ⟨k1.trans (hlt1 id hid), k2⟩
   have hG' := hG.keep hUq hkeep2
   have hUq' := (hkeep2 q hqlt hUq).2
   have hkq : ∀ id, id < σ.length → ¬ (SU b0 x id ∨ id = q) → σ'[id]? = σ[id]? ∧ ¬ (SU b0 x' id ∨ id = q) := fun id hid hA => by
    simp only [not_or] at hA ⊢
    exact ⟨(hkeep2 id hid hA.1).1, (hkeep2 id hid hA.1).2, hA.2⟩
   have hW' : Wd σ' (fun id => SU b0 x' id ∨ id = q) w m.2 := hW.keep hkq
   have hO' : Ow σ' (fun id => SU b0 x' id ∨ id = q) u m.1 := hOu.keep hkq
   have hbq : σ.length ≠ q := by omega
   generalize hb : σ.length = b at *
   have hius : i < us.length := (List.getElem?_eq_some_iff.1 hu).1
   clear hkeep hkeep2 hkq hI1 hF1 hW hlt1 hG hI hcell hw hout hzl hOu
   clear hb hqlt
   try simp only [OpK_eq, List.length_map, go_sem]
   have hadvB : ∀ k, k ≤ fs.length → (advN fs img (S i) m k).length ≤ N := fun k hk => by
    have h1 := advN_mono fs img (S i) m hk
    have h2 := hB (i + 1)
    rw [hSi] at h2
    exact Nat.le_trans h1 h2
   refine KL_ind k151_b0.eq_1 (fun x : Nat × Nat × List PV × List PV × Heap => [(0, .list (aggs (fs.map mp))), (2, .fn (.func 92) [] []), (3, .fn (.func 187) [] [.ptr b0 0]), (8, .ref q x.2.1 0 (advN fs img (S i) m x.1).length), (9, .int .i64 i), (10, .ptr b 0), (31, .list (aggs (fs.map mp))), (32, .int .i64 fs.length), (33, .int .i64 x.1)]) (fun x => x.2.2.2.2)
    (fun y => y.1 ≤ fs.length ∧ SI b0 x' (us.take (i + 1)) y.2.2.2.2 ∧ y.2.2.1.take (i + 1) = us.take (i + 1) ∧ QH y.2.2.2.2 (SU b0 x') q y.2.1 y.2.2.1 y.2.2.2.1 (advN fs img (S i) m y.1) ∧ y.2.2.2.2[b]? = some (.box [u, w]) ∧ Ow y.2.2.2.2 (fun id => SU b0 x' id ∨ id = q) u m.1 ∧ Wd y.2.2.2.2 (fun id => SU b0 x' id ∨ id = q) w m.2 ∧ Free y.2.2.2.2 ∧ (∀ z ∈ advN fs img (S i) m y.1, asc n z.1 ∧ z.2.length + 1 ≤ (advN fs img (S i) m y.1).length)) (fun y => fs.length - y.1) [0, 2, 3, 8, 9, 10, 31, 32, 33]
    (0, ver, us, ws, σ') (by rfl) rfl ⟨Nat.zero_le _, hI', rfl, hG', hb10, hO', hW', hF', hok⟩ fun ⟨k, ver2, us2, ws2, τ⟩ ⟨hk, hI2, ht2, hG2, hb2, hO2, hW2, hF2, hok2⟩ ihk => ?_
   simp only at hk hI2 ht2 hG2 hb2 hO2 hW2 hF2 hok2
   clear hI' hG' hb10 hW' hO' hF' hok hle
   have hsucc := advN_succ fs img (S i) m k
   have hlenB := hadvB k hk
   have hmlen := hmem.2
   generalize hL : advN fs img (S i) m k = L at *
   have hout := hG2.out
   have hblt := (List.getElem?_eq_some_iff.1 hb2).1
   have hqlt := (List.getElem?_eq_some_iff.1 hout).1
   try simp only [OpK_eq, List.length_map, go_sem]
   refine ⟨fun h3 => ?_, fun h3 => ?_⟩
   ·have hkl : k < fs.length := by omega
    have hfk := hf _ (List.getElem_mem hkl)
    have h6 := hfk.mp_len
    have hgk : (fs.map mp).getD k [] = mp fs[k] := by simp [List.getD_eq_getElem?_getD, hkl]
    rw [hgk]
    try simp only [OpK_eq, h6, go_sem]
    refine ⟨h3, fun _ => ?_⟩
    have hbx : ∀ X, (τ ++ X)[b]? = some (.box [u, w]) := fun X => (List.getElem?_append_left hblt).trans hb2
    have ht0 : ∀ (x : AObj) X, (τ ++ x :: X)[τ.length]? = some x := fun x X => by simp
    have ht1 : ∀ (x y : AObj) X, (τ ++ x :: y :: X)[τ.length + 1]? = some y := fun x y X => by
     rw [List.getElem?_append_right (by omega)]; simp
    have ht2' : ∀ (x y z : AObj) X, (τ ++ x :: y :: z :: X)[τ.length + 2]? = some z := fun x y z X => by
     rw [List.getElem?_append_right (by omega)]; simp
    have ht3 : ∀ (x y z a : AObj) X, (τ ++ x :: y :: z :: a :: X)[τ.length + 3]? = some a := fun x y z a X => by
     rw [List.getElem?_append_right (by omega)]; simp
    have hs0 : ∀ (x z : AObj) X, (τ ++ x :: X).set τ.length z = τ ++ z :: X := fun x z X => by
     rw [List.set_append_right _ _ (Nat.le_refl _)]; simp
    have hs2 : ∀ (x y z a : AObj) X, (τ ++ x :: y :: z :: X).set (τ.length + 2) a = τ ++ x :: y :: a :: X := fun x y z a X => by
     rw [List.set_append_right _ _ (by omega)]; simp
    have hs3 : ∀ (x y z a c : AObj) X, (τ ++ x :: y :: z :: a :: X).set (τ.length + 3) c = τ ++ x :: y :: z :: c :: X := fun x y z a c X => by
     rw [List.set_append_right _ _ (by omega)]; simp
    have hputn : ∀ v, putC [PV.nils] 0 [v] = [v] := fun v => by unfold putC; first | rfl | (split <;> rfl) | simp
    have hO2a : ∀ X, Imm (τ ++ X) u (.list (ints m.1)) := fun X => (hO2.keep (A' := fun id => SU b0 x' id ∨ id = q) fun id hid hu => ⟨List.getElem?_append_left hid, hu⟩).imm
    try simp only [OpK_eq, h6, hbx, HKv, List.append_assoc, List.cons_append, List.nil_append, ht0, ht1, hs0, go_sem]
    refine (image_own fs[k] n hfk hmem.1).lend (.cons Imm.still (.cons (hO2a _) (.nil _))) fun v s hv => ?_
    obtain ⟨vr, post, rfl, rfl⟩ := hv
    refine ⟨⟨free_ref _ _ _ _, Free.ints _ _ _ _⟩, ?_⟩
    have hnx := img_asc hfk hmem.1
    have hgf : fs.getD k [] = fs[k] := by simp [List.getD_eq_getElem?_getD, hkl]
    rw [hgf] at hsucc
    generalize hnxe : img fs[k] m.1 = nxp at *
    try simp only [OpK_eq, h6, hbx, HKv, ren_ref, ren_arr, ren_ints, Nat.zero_add, List.length_append, List.length_singleton, List.length_cons, List.length_nil, List.append_assoc, List.cons_append, List.nil_append, ht0, ht1, ht2', hs0, hs2, hputn, go_sem]
    have hk3 : ∀ X id, id < τ.length → ¬ (SU b0 x' id ∨ id = q) → (τ ++ X)[id]? = τ[id]? ∧ ¬ (SU b0 x' id ∨ id = q) := fun X id hid hu => ⟨List.getElem?_append_left hid, hu⟩
    have hG3 : ∀ X, QH (τ ++ X) (SU b0 x') q ver2 us2 ws2 L := fun X => hG2.keep hUq' fun id hid hu => ⟨List.getElem?_append_left hid, hu⟩
    have hO3 : ∀ X, Ow (τ ++ X) (fun id => SU b0 x' id ∨ id = q) u m.1 := fun X => hO2.keep (hk3 X)
    have hW3 : ∀ X, Wd (τ ++ X) (fun id => SU b0 x' id ∨ id = q) w m.2 := fun X => hW2.keep (hk3 X)
    have hI3 : ∀ X, SI b0 x' (us.take (i + 1)) (τ ++ X) := fun X => hI2.keep fun id hid => List.getElem?_append_left (SI.lt hI2 hid)
    have hfb : AObj.free (AObj.box (ints (mp fs[k]))) := fun c hc => (Plain.ints _ c hc).fr
    have hF3 : Free (τ ++ [AObj.box (ints (mp fs[k])), AObj.arr vr 2 1 (ints (nxp ++ post)), AObj.box [PV.ref (τ.length + 1) vr 0 nxp.length]]) := hF2.append fun o ho => by
     simp only [List.mem_cons, List.not_mem_nil, or_false] at ho
     rcases ho with rfl | rfl | rfl
     ·exact hfb
     ·exact free_ints _
     ·exact free_box1 (free_ref _ _ _ _)
    have hnO : ∀ (x z : AObj) X, Ow (τ ++ x :: AObj.arr vr 2 1 (ints (nxp ++ post)) :: z :: X) (fun id => SU b0 x' id ∨ id = q) (.ref (τ.length + 1) vr 0 nxp.length) nxp := fun x z X => by
     refine ⟨_, vr, post, rfl, ht1 _ _ _, ?_⟩
     rintro (h | h)
     ·have := SI.lt hI2 h; omega
     ·omega
    have hrid : rid (.ref (τ.length + 1) vr 0 nxp.length) ∉ us2.map rid := fun h => by
     obtain ⟨y, hy, e⟩ := List.mem_map.1 h
     obtain ⟨j, hj⟩ := List.getElem?_of_mem hy
     have hjl : j < L.length := by have := (List.getElem?_eq_some_iff.1 hj).1; rw [hG2.lu] at this; exact this
     obtain ⟨u', w', h1', _, _, h2', _⟩ := hG2.cell hjl
     rw [hj] at h1'; cases h1'
     have := h2'.rid
     have e : rid y = τ.length + 1 := e
     omega
    refine (p185 L (by omega) 186 [.fptr [.list (ints nxp)] 0] (fun x => decide (x.1 = nxp)) (fun x hx => p186 x nxp (by have := hokl _ hnx; omega) (by have := hokl _ (hok2 x hx).1; omega))).lend (.cons (hG3 _).imm (.cons (Imm.fnc _ (.cons (Imm.ptr (τ.length + 2) 0 [PV.ref (τ.length + 1) vr 0 nxp.length] [.list (ints nxp)] (ht2' _ _ _ []) rfl (by simp [PV.ok]) (fun j c d hc hd => by
     cases j with
     | zero => simp only [List.getElem?_cons_zero, Option.some.injEq] at hc hd; subst hc; subst hd; exact (hnO _ _ []).imm
     | succ j => simp at hc)) (.nil _))) (.nil _))) ?_
    cases hany : L.any (fun x => decide (x.1 = nxp)) with
    | true =>
     rw [if_pos hany] at hsucc
     try simp only [OpK_eq, go_sem]
     refine ⟨by omega, ihk (k + 1, ver2, us2, ws2, τ ++ _) ⟨by show k + 1 ≤ fs.length; omega, hI3 _, ht2, ?_, hbx _, hO3 _, hW3 _, hF3, ?_⟩ (by show fs.length - (k + 1) < fs.length - k; omega) _ _ ?_ rfl⟩
     ·show QH _ _ q ver2 us2 ws2 (advN fs img (S i) m (k + 1))
      rw [hsucc]; exact hG3 _
     ·show ∀ y ∈ advN fs img (S i) m (k + 1), _ ∧ _ ≤ (advN fs img (S i) m (k + 1)).length
      rw [hsucc]; exact hok2
     ·simp [keep, hsucc]
    | false =>
     rw [if_neg (by rw [hany]; simp)] at hsucc
     have hlenB1 := hadvB (k + 1) (by omega)
     rw [hsucc, List.length_append, List.length_singleton] at hlenB1
     have hul2 : i + 1 ≤ us2.length := by
      have := congrArg List.length ht2
      rw [List.length_take, List.length_take] at this
      omega
     have hnext : ∀ ver' u' w' ρ, SI b0 x' (us.take (i + 1)) ρ → QH ρ (SU b0 x') q ver' (us2 ++ [u']) (ws2 ++ [w']) (L ++ [(nxp, m.2 ++ [(k : Int)])]) → ρ[b]? = some (.box [u, w]) → Ow ρ (fun id => SU b0 x' id ∨ id = q) u m.1 → Wd ρ (fun id => SU b0 x' id ∨ id = q) w m.2 → Free ρ → ∀ env, keep [0, 2, 3, 8, 9, 10, 31, 32, 33] env = [(0, .list (aggs (fs.map mp))), (2, .fn (.func 92) [] []), (3, .fn (.func 187) [] [.ptr b0 0]), (8, .ref q ver' 0 (L.length + 1)), (9, .int .i64 i), (10, .ptr b 0), (31, .list (aggs (fs.map mp))), (32, .int .i64 fs.length), (33, .int .i64 (k + 1 : Nat))] → KL (mkCfg Tryz.prog mixed [53, 56] 59 q) k151_b0 _ env ρ := fun ver' u' w' ρ q1 q2 q3 q4 q6 q7 env q5 =>
      ihk (k + 1, ver', us2 ++ [u'], ws2 ++ [w'], ρ) ⟨by show k + 1 ≤ fs.length; omega, q1, by show (us2 ++ [u']).take (i + 1) = _; rw [List.take_append_of_le_length hul2]; exact ht2, by show QH ρ _ q ver' _ _ (advN fs img (S i) m (k + 1)); rw [hsucc]; exact q2, q3, q4, q6, q7, by
       show ∀ y ∈ advN fs img (S i) m (k + 1), _ ∧ _ ≤ (advN fs img (S i) m (k + 1)).length
       rw [hsucc]
       intro y hy
       rw [List.length_append, List.length_singleton]
       rcases List.mem_append.1 hy with hy | hy
       ·have := hok2 y hy; exact ⟨this.1, by omega⟩
       ·simp only [List.mem_singleton] at hy; subst hy
        refine ⟨hnx, ?_⟩
        simp only [List.length_append, List.length_singleton]
        have hmono := advN_mono fs img (S i) m (Nat.zero_le k)
        rw [hL] at hmono
        have e : advN fs img (S i) m 0 = (S i) := rfl
        rw [e] at hmono
        omega⟩ (by show fs.length - (k + 1) < fs.length - k; omega) env ρ (by rw [q5, hsucc]; simp) rfl
     clear ih ihk
     have hpush : ∀ (z : AObj) X w', AObj.free z → Free X → Wd (τ ++ AObj.box (ints (mp fs[k])) :: AObj.arr vr 2 1 (ints (nxp ++ post)) :: z :: X) (fun id => SU b0 x' id ∨ id = q) w' (m.2 ++ [(k : Int)]) → ∀ K' : PV → Heap → Prop,
       (∀ u' ρ, SI b0 x' (us.take (i + 1)) ρ → QH ρ (SU b0 x') q (ver2 + 1) (us2 ++ [u']) (ws2 ++ [w']) (L ++ [(nxp, m.2 ++ [(k : Int)])]) → ρ[b]? = some (.box [u, w]) → Ow ρ (fun id => SU b0 x' id ∨ id = q) u m.1 → Wd ρ (fun id => SU b0 x' id ∨ id = q) w m.2 → Free ρ → K' (.ref q (ver2 + 1) 0 (L.length + 1)) ρ) →
       aApp 166 2 (.ref q ver2 0 L.length) (.list [.agg [.ref (τ.length + 1) vr 0 nxp.length, w']]) (τ ++ AObj.box (ints (mp fs[k])) :: AObj.arr vr 2 1 (ints (nxp ++ post)) :: z :: X) K' := fun z X w' hz hX hw' K' hK' =>
      (hG3 _).push (hnO _ _ _) hw' hrid (by omega) fun hQ => by
       refine hK' _ _ ?_ hQ ?_ ((hO3 _).keep (fun id _ hA => ⟨List.getElem?_set_ne (show q ≠ id by rintro rfl; exact hA (.inr rfl)), hA⟩)) ((hW3 _).keep (fun id _ hA => ⟨List.getElem?_set_ne (show q ≠ id by rintro rfl; exact hA (.inr rfl)), hA⟩)) ?_
       ·refine (hI3 _).keep (fun id hid => List.getElem?_set_ne ?_)
        rintro rfl; exact hUq' hid
       ·rw [List.getElem?_set_ne (Ne.symm hbq)]; exact hbx _
       ·refine Free.set (hF2.append fun o ho => ?_) _ ?_
        ·simp only [List.mem_cons] at ho
         rcases ho with rfl | rfl | rfl | ho
         ·exact hfb
         ·exact free_ints _
         ·exact hz
         ·exact hX o ho
        ·have := hQ.fr (v := ver2 + 1) (e := 166) (s := 2)
         rwa [List.zipWith_append (by rw [hG2.lu, hG2.lw])] at this
     have hwd : ∀ (x y z : AObj) vr l, Wd (τ ++ [x, y, z, .arr vr 2 1 (ints l)]) (fun id => SU b0 x' id ∨ id = q) (.ref (τ.length + 3) vr 0 l.length) l := fun x y z vr l => by
      refine .inr ⟨_, vr, rfl, ht3 _ _ _ _ _, fun h => ?_⟩
      rcases h with h | h
      ·have := SI.lt hI2 h; omega
      ·omega
     have hwd1 : ∀ (x y z : AObj), Wd (τ ++ [x, y, z, .arr 2 2 1 (ints (m.2 ++ [(k : Int)]))]) (fun id => SU b0 x' id ∨ id = q) (.ref (τ.length + 3) 2 0 (m.2.length + 1)) (m.2 ++ [(k : Int)]) := fun x y z => by
      have := hwd x y z 2 (m.2 ++ [(k : Int)])
      rwa [List.length_append, List.length_singleton] at this
     have hwd0 : m.2 = [] → ∀ (x y z : AObj), Wd (τ ++ [x, y, z, .arr 0 2 1 [.int .i64 k]]) (fun id => SU b0 x' id ∨ id = q) (.ref (τ.length + 3) 0 0 1) (m.2 ++ [(k : Int)]) := fun h0 x y z => by
      rw [h0]; exact hwd x y z 0 [(k : Int)]
     have hb1 : AObj.free (AObj.box [PV.ref (τ.length + 1) vr 0 nxp.length]) := free_box1 (free_ref _ _ _ _)
     generalize hvq : PV.ref q ver2 0 L.length = vq at *
     try simp only [OpK_eq, hbx, HKv, ht0, ht1, ht2', go_sem]
     iterate 8
      all_goals (try (rw [vT_alt]; refine ⟨?_, ?_⟩))
      all_goals (try (try simp only [OpK_eq, hbx, HKv, ht0, ht1, ht2', go_sem] ))
     all_goals (refine ACall.lend (p51P m.2 (by omega)) (.cons (hW3 _).imm (.nil _)) fun v s hv => ?_)
     all_goals (rcases hv with ⟨rfl, rfl⟩ | ⟨hl0, rfl, rfl⟩)
     all_goals (first | refine ⟨⟨free_ref _ _ _ _, Free.ints _ _ _ _⟩, ?_⟩ | refine ⟨⟨Plain.nils.fr, Free.nil⟩, ?_⟩)
     all_goals (try (try simp only [OpK_eq, hbx, HKv, ht0, ht1, ht2', ht3, hs3, ren_ref, List.append_assoc, List.cons_append, List.nil_append, go_sem] ))
     iterate 8
      all_goals (try (rw [vT_alt]; refine ⟨?_, ?_⟩))
      all_goals (try (try simp only [OpK_eq, hbx, HKv, ht0, ht1, ht2', ht3, hs3, ren_ref, List.append_assoc, List.cons_append, List.nil_append, go_sem] ))
     all_goals (first | refine ⟨⟨Nat.le_refl _, by omega⟩, hpush _ [_] _ hb1 (Free.ints _ _ _ _) (hwd1 _ _ _) _ fun u' ρ q1 q2 q3 q4 q6 q7 => ?_⟩ | refine hpush _ [_] _ hb1 (Free.ints _ _ _ [(k : Int)]) (hwd0 hl0 _ _ _) _ fun u' ρ q1 q2 q3 q4 q6 q7 => ?_)
     all_goals (try simp only [OpK_eq, go_sem] )
     all_goals exact ⟨by omega, hnext (ver2 + 1) _ _ ρ q1 q2 q3 q4 q6 q7 _ (by simp [keep])⟩
   ·have hke : k = fs.length := by omega
    subst hke
    try simp only [go_sem]
    refine ⟨by omega, ih (i + 1, ver2, us2, ws2, x', τ) ⟨?_, by show SI b0 x' (us2.take (i + 1)) τ; rw [ht2]; exact hI2, hUq', ?_, hF2, ?_⟩ (by show N + 1 - (i + 1) < N + 1 - i; omega) _ _ ?_ rfl⟩
    ·show i + 1 ≤ (S (i + 1)).length
     rw [hSi]
     have := advN_mono fs img (S i) m (Nat.zero_le fs.length)
     have e : advN fs img (S i) m 0 = S i := rfl
     rw [e] at this
     omega
    ·show QH τ (SU b0 x') q ver2 us2 ws2 (S (i + 1))
     rw [hSi, hL]; exact hG2
    ·show ∀ y ∈ S (i + 1), asc n y.1 ∧ y.2.length + 1 ≤ (S (i + 1)).length
     rw [hSi, hL]; exact hok2
    ·rw [hSi, hL]; simp [keep]
  ·have hie : i = (S i).length := by omega
   have htu : us.take i = us := List.take_of_length_le (by rw [hG.lu]; omega)
   rw [htu] at hI
   refine Kv.Fin.now (hK i hie x us σ hI hG.lu (fun j u m hu hm => ?_) hG.nd hF)
   have hj : j < ws.length := by
    have := (List.getElem?_eq_some_iff.1 hu).1
    rw [hG.lw, ← hG.lu]; exact this
   have := (hG.row j u ws[j] m hu (List.getElem?_eq_getElem hj) hm).1
   obtain ⟨a, b, c, e1, e2, e3⟩ := this
   exact ⟨a, b, c, e1, e2, fun h => e3 (.inl h)⟩
theorem rows_pick {σ : Heap} {A : Nat → Prop} : ∀ {us : List PV} {t : List (List Int)}, us.length = t.length → (∀ (j : Nat) u p, us[j]? = some u → t[j]? = some p → Ow σ A u p) → ∃ rs : List Rw, rs.length = t.length ∧ pvs rs t = us ∧ (∀ (j : Nat) r l, rs[j]? = some r → t[j]? = some l → r.at 2 σ l ∧ r.nil = false ∧ ¬ A r.id) ∧ rs.map Rw.id = us.map rid
 | [], [], _, _ => ⟨[], rfl, rfl, fun j r l h => by simp at h, rfl⟩
 | [], _ :: _, h, _ => by simp at h
 | _ :: _, [], h, _ => by simp at h
 | u :: us, p :: t, h, ho => by
  obtain ⟨rs, h1, h2, h3, h4⟩ := rows_pick (us := us) (t := t) (by simpa using h) fun j u' p' hu hp => ho (j + 1) u' p' (by simpa using hu) (by simpa using hp)
  obtain ⟨id, ver, post, rfl, hid, hA⟩ := ho 0 u p rfl rfl
  refine ⟨⟨false, id, ver, [], post⟩ :: rs, by simp [h1], ?_, fun j r l hr hl => ?_, by simp [h4, rid]⟩
  ·show Rw.pv _ p :: pvs rs t = _
   rw [h2]; rfl
  ·cases j with
   | zero =>
    simp only [List.getElem?_cons_zero, Option.some.injEq] at hr hl
    subst hr; subst hl
    exact ⟨⟨fun h => (by cases h), fun _ => hid⟩, rfl, hA⟩
   | succ j => exact h3 j r l (by simpa using hr) (by simpa using hl)
noncomputable def rst (fs : List (List Nat)) (p : List Int) (i : Nat) : List (List Int) := (bl fs img p i).map Prod.fst
theorem p154 (fs : List (List Nat)) (n : Nat) (hn5 : n ≤ 5) (hf : ∀ f ∈ fs, Ok f n) (hfl : fs.length ≤ 1000) (p : List Int) (hp : asc n p) (ver : Nat) (post : List Int) (K : PV → Heap → Prop)
  (hK : ∀ i, i = (bl fs img p i).length → ∀ v s, TabN 27 2 s v (rst fs p i) → Free s → K v s) :
  ACall Tryz.prog 154 [.list (aggs (fs.map mp)), .ref 0 ver 0 p.length] [.arr ver 2 1 (ints (p ++ post))] K := by
 refine e154 (by simp) fun _ _ => ?_
 simp only [k154, argEnv, go_sem]
 try simp only [OpK_eq, go_sem]
 refine search_own fs n hn5 hf hfl 1 p hp _ 32 (by omega) (fun i => by rw [bl_wq]; exact wq_len hn5 hf hp i) _ ⟨rfl, rfl⟩ ⟨0, ver, post, rfl, rfl, ?_⟩ ?_ _ fun i hi x us σ hI hlu hO hnd hF => ?_
 ·rintro (h | h) <;> cases h
 ·intro o ho
  simp only [List.mem_cons, List.not_mem_nil, or_false] at ho
  rcases ho with rfl | rfl
  ·exact free_ints _
  ·exact free_box1 Plain.nils.fr
 ·have hK' := hK i hi
  clear hK
  have hlr : us.length = (rst fs p i).length := by rw [hlu, rst, List.length_map]
  obtain ⟨rs, r1, r2, r3, r4⟩ := rows_pick (σ := σ) (A := SU 1 x) (us := us) (t := rst fs p i) hlr fun j u q hu hq => by
   rw [rst, List.getElem?_map, Option.map_eq_some_iff] at hq
   obtain ⟨m, hm, rfl⟩ := hq
   exact hO j u m hu hm
  cases x with
  | none =>
   obtain ⟨h1, h2⟩ := hI
   subst h2
   try simp only [OpK_eq, HKv, h1, go_sem]
   have e : rst fs p i = [] := List.eq_nil_of_length_eq_zero (by rw [← hlr]; rfl)
   exact Kv.Fin.now (hK' _ _ (by rw [e]; exact .nil) hF)
  | some id =>
   obtain ⟨vr, h1, h2, h3⟩ := hI
   try simp only [OpK_eq, HKv, h1, go_sem]
   refine Kv.Fin.now (hK' _ _ ?_ hF)
   rw [hlr]
   refine .tab id vr rs _ ⟨⟨[], by rw [r2, List.append_nil]; exact h2⟩, r1, fun j r l hr hl => (r3 j r l hr hl).1, fun a b r q hr hq _ _ he => ?_, fun r hr hn e => ?_⟩
   ·have hnd2 := hnd
    rw [← r4] at hnd2
    have hpw := List.pairwise_iff_getElem.1 (List.nodup_iff_pairwise_ne.1 hnd2)
    obtain ⟨ha1, ha2⟩ := List.getElem?_eq_some_iff.1 hr
    obtain ⟨hb1, hb2⟩ := List.getElem?_eq_some_iff.1 hq
    have hne : ∀ (a b : Nat) (ha : a < rs.length) (hb : b < rs.length), a < b → rs[a].id ≠ rs[b].id := fun a b ha hb hab => by
     have := hpw a b (by simpa using ha) (by simpa using hb) hab
     simpa using this
    rcases Nat.lt_trichotomy a b with h | h | h
    ·exact absurd (by rw [ha2, hb2]; exact he) (hne a b ha1 hb1 h)
    ·exact h
    ·exact absurd (by rw [ha2, hb2]; exact he.symm) (hne b a hb1 ha1 h)
   ·obtain ⟨j, hj⟩ := List.getElem?_of_mem hr
    have hjt : j < (rst fs p i).length := by rw [← r1]; exact (List.getElem?_eq_some_iff.1 hj).1
    exact (r3 j r _ hj (List.getElem?_eq_getElem hjt)).2.2 (.inr (by rw [e]))
end Go.Proofs.YthbbjbfbeaiphaaGreat
end
section
namespace Go.Proofs.YthbbjbfbeaiphaaGreat
open Go.Kv
set_option maxRecDepth 100000
def k106 : KC := (.seq (.ops [oP 4 (.mv (.c (.nils)))])
 (.seq (.ops [mV 6 0, mV 7 1, oP 8 (.call (fC 51) [(.t 7)]), oP 9 (.call (fC 154) [(.t 6), (.t 8)]), mV 5 9])
 (.seq (.ops [mV 10 5, oP 11 (.call (fC 93) [(.t 10), (fC 94)])])
 (.seq (.ops [mV 12 5, mV 4 12])
 .ret))))
theorem e106 : Ent 106 13 [] [.t 4] k106 := ent Tryz.func106 (by kernel_rfl) (by kernel_rfl) (by kernel_rfl) (fun _ => by kernel_rfl) (by kernel_rfl)
end Go.Proofs.YthbbjbfbeaiphaaGreat
namespace Go.Proofs.YthbbjbfbeaiphaaGreat
open Go.Kv
set_option linter.unusedVariables false
set_option linter.unusedSimpArgs false
attribute [local irreducible] ACall PCall KL
inductive Rb (fs : List (List Nat)) (bf : List Nat → List Int → List Int) (p : List Int) : List Int → Prop
 | here : Rb fs bf p p
 | step (f : List Nat) (x : List Int) (h : f ∈ fs) (hx : Rb fs bf p x) : Rb fs bf p (bf f x)
theorem adv_rb {fs : List (List Nat)} {bf : List Nat → List Int → List Int} {p : List Int} {Q : List Met} {m : Met} (hQ : ∀ x ∈ Q, Rb fs bf p x.1) (hm : Rb fs bf p m.1) : ∀ k, k ≤ fs.length →
  (∀ x ∈ advN fs bf Q m k, Rb fs bf p x.1) ∧ (∀ j, j < k → ∃ x ∈ advN fs bf Q m k, x.1 = bf (fs.getD j []) m.1) ∧ (∀ x ∈ Q, x ∈ advN fs bf Q m k)
 | 0, _ => ⟨hQ, fun j h => by omega, fun x hx => hx⟩
 | k + 1, hk => by
  obtain ⟨h1, h3, h4⟩ := adv_rb hQ hm k (by omega)
  have hgf : fs.getD k [] = fs[k] := by simp [List.getD_eq_getElem?_getD, show k < fs.length by omega]
  have hfk : fs[k] ∈ fs := List.getElem_mem _
  rw [advN_succ]
  cases hany : (advN fs bf Q m k).any (fun x => decide (x.1 = bf (fs.getD k []) m.1)) with
  | true =>
   rw [if_pos rfl]
   refine ⟨h1, fun j hj => ?_, h4⟩
   by_cases e : j = k
   ·subst e
    obtain ⟨x, hx, e⟩ := List.any_eq_true.1 hany
    exact ⟨x, hx, of_decide_eq_true e⟩
   ·exact h3 j (by omega)
  | false =>
   rw [if_neg (by simp)]
   refine ⟨fun x hx => ?_, fun j hj => ?_, fun x hx => List.mem_append.2 (.inl (h4 x hx))⟩
   ·rcases List.mem_append.1 hx with hx | hx
    ·exact h1 x hx
    ·simp only [List.mem_singleton] at hx; subst hx
     show Rb fs bf p (bf (fs.getD k []) m.1)
     rw [hgf]; exact .step _ _ hfk hm
   ·by_cases e : j = k
    ·subst e; exact ⟨_, List.mem_append.2 (.inr (List.mem_singleton.2 rfl)), rfl⟩
    ·obtain ⟨x, hx, e⟩ := h3 j (by omega)
     exact ⟨x, List.mem_append.2 (.inl hx), e⟩
theorem bl_rb {fs : List (List Nat)} {bf : List Nat → List Int → List Int} {p : List Int} : ∀ i, i ≤ (bl fs bf p i).length →
  (∀ x ∈ bl fs bf p i, Rb fs bf p x.1) ∧ (∃ x ∈ bl fs bf p i, x.1 = p) ∧
  (∀ j, (h : j < (bl fs bf p i).length) → j < i → ∀ k, k < fs.length → ∃ x ∈ bl fs bf p i, x.1 = bf (fs.getD k []) (bl fs bf p i)[j].1)
 | 0, _ => by
  have e : bl fs bf p 0 = [((p, []) : Met)] := rfl
  rw [e]
  refine ⟨fun x hx => ?_, ⟨_, List.mem_singleton.2 rfl, rfl⟩, fun j _ h => by omega⟩
  simp only [List.mem_singleton] at hx; subst hx
  exact .here
 | i + 1, hi1 => by
  by_cases hi : i < (bl fs bf p i).length
  ·obtain ⟨h1, h3, h4⟩ := bl_rb (fs := fs) (bf := bf) (p := p) i (by omega)
   obtain ⟨g1, g3, g4⟩ := adv_rb h1 (h1 _ (List.getElem_mem hi)) fs.length (Nat.le_refl _)
   obtain ⟨r, hr⟩ := advN_preE fs bf (bl fs bf p i) (bl fs bf p i)[i] fs.length
   have e := bl_succ (fs := fs) (bf := bf) (p := p) hi
   rw [← e] at g1 g3 g4 hr
   obtain ⟨x0, hx0, e0⟩ := h3
   refine ⟨g1, ⟨x0, g4 x0 hx0, e0⟩, fun j hj hji k hk => ?_⟩
   have hj' : j < (bl fs bf p i).length := by omega
   have ej : (bl fs bf p (i + 1))[j] = (bl fs bf p i)[j] := by
    have : (bl fs bf p (i + 1))[j]? = (bl fs bf p i)[j]? := by rw [hr, List.getElem?_append_left hj']
    rw [List.getElem?_eq_getElem hj, List.getElem?_eq_getElem hj'] at this
    exact Option.some.inj this
   rw [ej]
   by_cases e2 : j = i
   ·subst e2; exact g3 k hk
   ·obtain ⟨x, hx, e3⟩ := h4 j hj' (by omega) k hk
    exact ⟨x, g4 x hx, e3⟩
  ·have e : bl fs bf p (i + 1) = bl fs bf p i := by
    rw [bl]
    have : (bl fs bf p i)[i]? = none := List.getElem?_eq_none (Nat.le_of_not_lt hi)
    rw [this]
   rw [e] at hi1
   omega
theorem rst_mem {fs : List (List Nat)} {p : List Int} {i : Nat} (hi : i = (bl fs img p i).length) (y : List Int) : y ∈ rst fs p i ↔ Rb fs img p y := by
 obtain ⟨h1, h3, h4⟩ := bl_rb (fs := fs) (bf := img) (p := p) i (by omega)
 unfold rst
 rw [List.mem_map]
 constructor
 ·rintro ⟨x, hx, rfl⟩; exact h1 x hx
 ·intro hy
  induction hy with
  | here => exact h3
  | step f x hf' _ ih =>
   obtain ⟨z, hz, e⟩ := ih
   obtain ⟨j, hj, rfl⟩ := List.getElem_of_mem hz
   obtain ⟨k, hk, rfl⟩ := List.getElem_of_mem hf'
   obtain ⟨u, hu, e2⟩ := h4 j hj (by omega) k hk
   refine ⟨u, hu, ?_⟩
   rw [e2, e]
   simp [List.getD_eq_getElem?_getD, hk]
inductive Rc (fs : List (List Nat)) (n x : Nat) : Nat → Prop
 | here : Rc fs n x x
 | step (f : List Nat) (y : Nat) (h : f ∈ fs) (hy : Rc fs n x y) : Rc fs n x (mvb f n y)
theorem mvb_pos {f : List Nat} {n x : Nat} (hf : Ok f n) (h1 : 1 ≤ x) (h : x < 2 ^ n) : 1 ≤ mvb f n x := by
 rw [← bits_pof h1 h]
 obtain ⟨l, e, h0, _, _⟩ := img_asc hf (asc_pof h1 h)
 rw [bits, e, toNat_map]
 cases l with
 | nil => exact absurd rfl h0
 | cons a l =>
  refine Nat.one_le_iff_ne_zero.2 fun hz => ?_
  have := sb_test (a :: l) a
  rw [hz, Nat.zero_testBit] at this
  simp at this
theorem Rc.bnd {fs : List (List Nat)} {n x : Nat} (hf : ∀ f ∈ fs, Ok f n) (h1 : 1 ≤ x) (h : x < 2 ^ n) {y : Nat} (hy : Rc fs n x y) : 1 ≤ y ∧ y < 2 ^ n := by
 induction hy with
 | here => exact ⟨h1, h⟩
 | step f y hff _ ih => exact ⟨mvb_pos (hf f hff) ih.1 ih.2, mvb_lt (hf f hff) y⟩
theorem img_pof {f : List Nat} {n x : Nat} (hf : Ok f n) (h1 : 1 ≤ x) (h : x < 2 ^ n) : img f (nz (pof x n)) = nz (pof (mvb f n x) n) := by
 have hb := bits_pof (f := f) h1 h
 have hm := mvb_lt hf x
 refine (bits_inj (img_asc hf (asc_pof h1 h)) (asc_pof (mvb_pos hf h1 h) hm)).1 ?_
 rw [hb, bits, nz, toNat_map, pof_lt hm]
theorem Rb_Rc {fs : List (List Nat)} {n x : Nat} (hf : ∀ f ∈ fs, Ok f n) (h1 : 1 ≤ x) (h : x < 2 ^ n) (r : List Int) : Rb fs img (nz (pof x n)) r ↔ ∃ y, Rc fs n x y ∧ r = nz (pof y n) := by
 constructor
 ·intro hr
  induction hr with
  | here => exact ⟨x, .here, rfl⟩
  | step f z hff _ ih =>
   obtain ⟨y, hy, rfl⟩ := ih
   have hb := hy.bnd hf h1 h
   exact ⟨_, .step f y hff hy, img_pof (hf f hff) hb.1 hb.2⟩
 ·rintro ⟨y, hy, rfl⟩
  induction hy with
  | here => exact .here
  | step f y hff hy ih =>
   have hb := hy.bnd hf h1 h
   rw [← img_pof (hf f hff) hb.1 hb.2]
   exact .step f _ hff ih
noncomputable def imS (fs : List (List Nat)) (n x : Nat) : List Nat := ((List.range (2 ^ n)).filter fun b => @decide (Rc fs n x b) (Classical.propDecidable _)).foldl putB []
theorem fold_put : ∀ (l S : List Nat), Srt S → (∀ x ∈ l, x < 2 ^ 62) → Srt (l.foldl putB S) ∧ ∀ b, b ∈ l.foldl putB S ↔ b ∈ l ∨ b ∈ S
 | [], S, h, _ => ⟨h, fun b => by simp⟩
 | a :: l, S, h, hl => by
  obtain ⟨h1, h2⟩ := fold_put l (putB S a) (putB_srt h (hl a (by simp))) fun x hx => hl x (by simp [hx])
  refine ⟨h1, fun b => ?_⟩
  rw [List.foldl_cons, h2, putB_mem, List.mem_cons]
  constructor
  ·rintro (h | h | h)
   ·exact .inl (.inr h)
   ·exact .inl (.inl h)
   ·exact .inr h
  ·rintro ((h | h) | h)
   ·exact .inr (.inl h)
   ·exact .inl h
   ·exact .inr (.inr h)
theorem imS_srt {fs : List (List Nat)} {n x : Nat} (h5 : n ≤ 5) : Srt (imS fs n x) :=
 (fold_put _ [] ⟨.nil, by simp⟩ fun y hy => lt62 h5 (by simpa using (List.mem_filter.1 hy).1)).1
theorem imS_mem {fs : List (List Nat)} {n x : Nat} (h5 : n ≤ 5) (hf : ∀ f ∈ fs, Ok f n) (h1 : 1 ≤ x) (h : x < 2 ^ n) (b : Nat) : b ∈ imS fs n x ↔ Rc fs n x b := by
 unfold imS
 rw [(fold_put _ [] ⟨.nil, by simp⟩ fun y hy => lt62 h5 (by simpa using (List.mem_filter.1 hy).1)).2]
 simp only [List.mem_filter, List.mem_range, decide_eq_true_eq, List.not_mem_nil, or_false]
 exact ⟨fun hb => hb.2, fun hb => ⟨(hb.bnd hf h1 h).2, hb⟩⟩
theorem srt_uniq {S T : List Nat} (hS : Srt S) (hT : Srt T) (h : ∀ b, b ∈ S ↔ b ∈ T) : S = T :=
 perm_uniq (le := fun a b => bef a b = true) (fun a b h1 h2 => by
  have := bef_trans h1 h2
  rw [bef_irr] at this; cases this) ((List.perm_ext_iff_of_nodup (srt_nodup hS) (srt_nodup hT)).2 h) hS.1 hT.1
theorem srt_len5 {S : List Nat} (hS : Srt S) {n : Nat} (h5 : n ≤ 5) (h : ∀ b ∈ S, b < 2 ^ n) : S.length ≤ 32 :=
 nodup_len 32 S (srt_nodup hS) fun b hb => Nat.lt_of_lt_of_le (h b hb) (pw5 h5)
theorem rst_asc {fs : List (List Nat)} {n : Nat} (hf : ∀ f ∈ fs, Ok f n) {p : List Int} (hp : asc n p) {i : Nat} : (∀ r ∈ rst fs p i, asc n r) ∧ (rst fs p i).Nodup := by
 unfold rst
 rw [bl_wq]
 obtain ⟨h1, h2⟩ := wq_inv hf hp i
 exact ⟨fun r hr => by obtain ⟨m, hm, rfl⟩ := List.mem_map.1 hr; exact h1 m hm, h2⟩
theorem p106 (fs : List (List Nat)) (n : Nat) (h5 : n ≤ 5) (hf : ∀ f ∈ fs, Ok f n) (hfl : fs.length ≤ 1000) (x : Nat) (h1 : 1 ≤ x) (hx : x < 2 ^ n) :
  ACall Tryz.prog 106 [.list (aggs (fs.map mp)), .list (ints (nz (pof x n)))] [] (fun v s => TabN 27 2 s v (rowsB (imS fs n x)) ∧ Free s) := by
 have hp := asc_pof h1 hx
 have hpl := asc_len hp
 have hne := pof_ne h1 hx
 refine e106 (by simp) fun _ _ => ?_
 simp only [k106, argEnv, go_sem]
 refine (p51P (nz (pof x n)) (by omega)).go fun v s hv => ?_
 rcases hv with ⟨rfl, rfl⟩ | ⟨hl0, rfl, rfl⟩
 ·try simp only [OpK_eq, HKv, ren_ref, ren_arr, ren_ints, List.nil_append, go_sem]
  have e0 : nz (pof x n) = nz (pof x n) ++ [] := by simp
  have hR := p154 fs n h5 hf hfl (nz (pof x n)) hp 1 []
  rw [List.append_nil] at hR
  refine hR _ fun i hi v s hT hF => ?_
  have hra := rst_asc hf hp (i := i)
  have hlen : (rst fs (nz (pof x n)) i).length ≤ 32 := by
   rw [rst, bl_wq, List.length_map]; exact wq_len h5 hf hp i
  have hpm : nz (pof x n) ∈ rst fs (nz (pof x n)) i := (rst_mem hi _).2 .here
  try simp only [OpK_eq, HKv, go_sem]
  refine tab_sort hT hF (List.length_pos_of_mem hpm) (by omega) (fun l hl => ?_) fun t' s' q1 q2 q3 q4 _ => ?_
  ·have h := asc_len (hra.1 l hl)
   exact ⟨fun e => by rw [e] at h; simp at h, by omega⟩
  ·try simp only [OpK_eq, HKv, go_sem]
   have e : t' = rowsB (imS fs n x) := by
    refine rowsB_uniq (imS_srt h5) (q2.nodup_iff.2 hra.2) (fun r => ?_) q3
    rw [q2.mem_iff, rst_mem hi, Rb_Rc hf h1 hx, rowsB, List.mem_map]
    constructor
    ·rintro ⟨y, hy, rfl⟩
     exact ⟨y, (imS_mem h5 hf h1 hx y).2 hy, by rw [pof62 h5 (hy.bnd hf h1 hx).2]⟩
    ·rintro ⟨y, hy, rfl⟩
     have hy := (imS_mem h5 hf h1 hx y).1 hy
     exact ⟨y, hy, by rw [pof62 h5 (hy.bnd hf h1 hx).2]⟩
   rw [e] at q1
   exact Kv.Fin.now ⟨q1, q4⟩
 ·exact absurd hl0 (by unfold nz; simpa using hne)
end Go.Proofs.YthbbjbfbeaiphaaGreat
end
section
namespace Go.Proofs.YthbbjbfbeaiphaaGreat
open Go.Kv
set_option maxRecDepth 100000
def k34_b0 : KC := (.seq (.seq (.ops [mV 25 8, mV 26 0, oP 27 (.len false (.t 26)), oP 28 (.bin .lss (.t 25) (.t 27))])
 (.cond (.t 28) .skip (.exit 2)))
 (.seq (.block 3 (.ops [mV 31 7, mV 32 31, ⟨(some 33), some (32, true), .mv (.t 0)⟩, ⟨(some 34), some (32, true), .mv (.t 8)⟩, ⟨(some 35), some (32, true), .idxS 6 (.t 33) (.t 34)⟩, ⟨(some 36), some (32, true), .load true 6 (.t 35)⟩, ⟨(some 37), some (32, true), .mv (.t 6)⟩, ⟨(some 38), some (32, true), .call (fC 95) [(.t 36), (.t 37)]⟩, ⟨(some 39), some (32, true), .mv (.t 6)⟩, ⟨(some 40), some (32, true), .bin .or (.t 38) (.t 39)⟩, ⟨(some 41), some (32, true), .mv (.t 6)⟩, ⟨(some 42), some (32, true), .bin .eql (.t 40) (.t 41)⟩, oP 43 (.pick (.t 32) (.t 42) (.c (.bool false))), mV 7 43]))
 (.ops [mV 29 8, oP 30 (.bin .add (.t 29) (iC 1)), mV 8 30])))
def k34_b1 : KC := (.seq (.seq (.ops [mV 15 6, mV 16 0, oP 17 (.idxS 6 (.t 16) (iC 0)), oP 18 (.fieldA 0 (.t 17)), oP 19 (.load false 1 (.t 18)), oP 20 (.conv .u64 (.t 19)), oP 21 (.bin .shl (iC 1) (.t 20)), oP 22 (.bin .lss (.t 15) (.t 21))])
 (.cond (.t 22) .skip (.exit 0)))
 (.seq (.block 1 (.seq (.ops [oP 7 (.mv (.c (.bool true)))])
 (.seq (.seq (.ops [oP 8 (.mv (iC 0))])
 (.block 2 (.loop k34_b0)))
 (.seq (.ops [mV 44 7])
 (.cond (.t 44) (.ops [mV 45 5, mV 46 6, oP 47 (.call (fC 96) [(.t 45), (.t 46)]), mV 5 47]) .skip)))))
 (.ops [mV 23 6, oP 24 (.bin .add (.t 23) (iC 1)), mV 6 24])))
def k34 : KC := (.seq (.ops [oP 2 (.mv (.c (.nils))), oP 3 (.mv (iC 0))])
 (.seq (.seq (.ops [mV 9 0, oP 10 (.call (fC 74) [(.t 9), (.c (.nils))]), mV 4 10])
 (.seq (.ops [mV 11 4, oP 12 (.bin .neq (.t 11) (iC 0))])
 (.cond (.t 12) (.seq (.ops [mV 13 4, oP 2 (.mv (.c (.nils))), mV 3 13])
 .ret) .skip)))
 (.seq (.ops [oP 14 (.bsl false 2 1 []), mV 5 14])
 (.seq (.seq (.ops [oP 6 (.mv (iC 1))])
 (.block 0 (.loop k34_b1)))
 (.seq (.ops [mV 48 5, oP 49 (.call (fC 97) [(.t 48)]), mV 2 49, oP 3 (.mv (iC 0))])
 .ret)))))
theorem e34 : Ent 34 50 [] [.t 2, .t 3] k34 := ent Tryz.func34 (by kernel_rfl) (by kernel_rfl) (by kernel_rfl) (fun _ => by kernel_rfl) (by kernel_rfl)
end Go.Proofs.YthbbjbfbeaiphaaGreat
namespace Go.Proofs.YthbbjbfbeaiphaaGreat
open Go.Kv
set_option linter.unusedVariables false
set_option linter.unusedSimpArgs false
attribute [local irreducible] ACall PCall KL
theorem insS_one (fs : List (List Nat)) (n : Nat) : insS fs n 1 = [] := by simp [insS]
theorem moved_x (f : List Nat) (n : Nat) (hf : Ok f n) {x : Nat} (hx : x < 2 ^ n) : Pure Tryz.prog 95 [.agg (ints (mp f)), .int .i64 x] (.int .i64 (mvb f n x)) := by
 have := p95 f n hf (pof x n) (fun y hy => pof_mlt hy)
 rwa [pof_lt hx] at this
theorem p34_in (fs : List (List Nat)) (n : Nat) (hf : ∀ f ∈ fs, Ok f n) (h0 : 0 < fs.length) (hfl : fs.length ≤ 6) (hl : lcode (fs.map mp) [] = 0) : Pure Tryz.prog 34 [.list (aggs (fs.map mp))] (.tup [.list (rows (rowsB (insS fs n (2 ^ n)))), .int .i64 0]) := by
  have hk := hf _ (List.getElem_mem h0)
  have h6k := hk.mp_len
  have h5 := hk.le
  have h1 := hk.pos
  have h32 := pw5 h5
  have hn : (mp fs[0]).getD 0 0 = (n : Int) := by simp [mp, mpN, hk.len]
  have hn61 : n ≤ 61 := by omega
  refine e34 (by simp) fun _ _ => ?_
  simp only [k34, argEnv, go_sem]
  refine (p74n (fs.map mp) (by simp; omega) (fun r hr => by obtain ⟨f, hf', rfl⟩ := List.mem_map.1 hr; exact (hf f hf').mp_len)).go ?_
  rw [hl]
  try simp only [OpK_eq, HKv, go_sem]
  refine KL_freeze (env0 := [(0, .list (aggs (fs.map mp))), (5, .ref 0 0 0 0), (6, .int .i64 1)]) (env' := [(0, .list (aggs (fs.map mp))), (5, .list (ints (nz (insS fs n 1)))), (6, .int .i64 1)]) [0, 5, 6] rfl (by simp [keep]) (.cons Imm.still (.cons (by rw [insS_one]; exact Imm.refn (id := 0) (ver := 0) (n := 0) (e := 2) (l := []) rfl rfl) (.cons Imm.still .nil))) ?_
  refine KL_ind k34_b1.eq_1 (fun x : Nat => [(0, .list (aggs (fs.map mp))), (5, .list (ints (nz (insS fs n x)))), (6, .int .i64 x)]) (fun _ => []) (fun x => 1 ≤ x ∧ x ≤ 2 ^ n) (fun x => 2 ^ n - x) [0, 5, 6] 1 (by simp [keep]) rfl ⟨Nat.le_refl _, Nat.pos_of_ne_zero (by simp)⟩ fun x ⟨hx1, hx⟩ ih => ?_
  have hS := insS_srt fs n x (by have : (32 : Nat) ≤ 2 ^ 62 := by decide
                                 omega)
  have hSl := insS_len fs n x (by have : (32 : Nat) ≤ 2 ^ 62 := by decide
                                  omega)
  have hSs : insS fs n (x + 1) = if 1 ≤ x ∧ okS fs n x = true then putB (insS fs n x) x else insS fs n x := rfl
  try simp only [OpK_eq, HKv, map_getD h0, h6k, hn, List.length_map, aConv_u64 hn61, aBin_shl1 hn61, go_sem]
  refine ⟨by omega, fun _ => ⟨fun h2 => ?_, fun h2 => ?_⟩⟩
  · have hxn : x < 2 ^ n := by omega
    have hx62 := lt62 h5 hxn
    refine KL_ind k34_b0.eq_1 (fun k : Nat => [(0, .list (aggs (fs.map mp))), (5, .list (ints (nz (insS fs n x)))), (6, .int .i64 x), (7, .bool ((fs.take k).all fun f => decide (mvb f n x ||| x = x))), (8, .int .i64 k)]) (fun _ => []) (fun k => k ≤ fs.length) (fun k => fs.length - k) [0, 5, 6, 7, 8] 0 (by simp [keep]) rfl (Nat.zero_le _) fun k hkl ihk => ?_
    try simp only [OpK_eq, HKv, List.length_map, go_sem]
    refine ⟨fun h3 => ?_, fun h3 => ?_⟩
    · have hkl2 : k < fs.length := by omega
      have hfm : fs[k] ∈ fs := List.getElem_mem hkl2
      have hfk := hf _ hfm
      have h6f := hfk.mp_len
      have hgk : (fs.map mp).getD k [] = mp fs[k] := by simp [List.getD_eq_getElem?_getD, hkl2]
      have htk : (fs.take (k + 1)).all (fun f => decide (mvb f n x ||| x = x)) = ((fs.take k).all (fun f => decide (mvb f n x ||| x = x)) && decide (mvb fs[k] n x ||| x = x)) := by
        rw [List.take_succ_eq_append_getElem hkl2, List.all_append]; simp
      have hmx := lt62 h5 (mvb_lt hfk x)
      rw [hgk]
      generalize hg : (fs.take k).all (fun f => decide (mvb f n x ||| x = x)) = g at *
      cases g with
      | true =>
        try simp only [OpK_eq, HKv, h6f, go_sem]
        refine ⟨by omega, fun _ => ?_⟩
        refine (moved_x fs[k] n hfk hxn).go ?_
        have hor2 := fun K => aBin_or (K := K) hmx hx62
        try simp only [OpK_eq, HKv, hor2, go_sem]
        refine ⟨by omega, ihk (k + 1) (by omega) (by omega) _ _ ?_ rfl⟩
        rw [htk, Bool.true_and]
        simp only [keep, List.map_cons, List.map_nil, look_cons, Nat.reduceEqDiff, ↓reduceIte, Int.natCast_add]
        have : decide (((mvb fs[k] n x ||| x : Nat) : Int) = (x : Int)) = decide (mvb fs[k] n x ||| x = x) := decide_eq_decide.2 (by omega)
        rw [this]; rfl
      | false =>
        try simp only [OpK_eq, HKv, h6f, go_sem]
        refine ⟨by omega, ihk (k + 1) (by omega) (by omega) _ _ ?_ rfl⟩
        rw [htk, Bool.false_and]; rfl
    · obtain rfl : k = fs.length := by omega
      rw [List.take_length]
      have hok : (fs.all fun f => decide (mvb f n x ||| x = x)) = okS fs n x := rfl
      rw [hok]
      cases hg : okS fs n x with
      | true =>
        rw [hg, if_pos ⟨hx1, rfl⟩] at hSs
        try simp only [OpK_eq, HKv, go_sem]
        refine (p96 (insS fs n x) x hS hx62 (by omega)).go ?_
        try simp only [OpK_eq, HKv, go_sem]
        refine ⟨by omega, ih (x + 1) ⟨by omega, by omega⟩ (by omega) _ _ ?_ rfl⟩
        rw [hSs]; rfl
      | false =>
        rw [hg, if_neg (fun h => by cases h.2)] at hSs
        try simp only [OpK_eq, HKv, go_sem]
        refine ⟨by omega, ih (x + 1) ⟨by omega, by omega⟩ (by omega) _ _ ?_ rfl⟩
        rw [hSs]; rfl
  · obtain rfl : x = 2 ^ n := by omega
    try simp only [OpK_eq, HKv, go_sem]
    refine (p97 _ hS.2 (by omega)).go ?_
    try simp only [OpK_eq, HKv, go_sem]
    exact Kv.Fin.still ⟨rfl, rfl⟩
theorem p33_out (a : List (List Int)) (ha : a.length ≤ 1048576) (h6 : ∀ r ∈ a, r.length = 6) (hc : lcode a [] ≠ 0) : Pure Tryz.prog 33 [.list (aggs a)] (.tup [.nils, .int .i64 (lcode a [])]) := by
 refine e33 (by simp) fun _ _ => ?_
 simp only [k33, argEnv, go_sem]
 refine (p72 _ a [] .nil ha (by simp) h6 (by simp)).go ?_
 try simp only [OpK_eq, HKv, go_sem]
 exact ⟨fun h1 => Kv.Fin.still ⟨rfl, rfl⟩, fun h1 => absurd h1 hc⟩
theorem p34_out (a : List (List Int)) (ha : a.length ≤ 1048576) (h6 : ∀ r ∈ a, r.length = 6) (hc : lcode a [] ≠ 0) : Pure Tryz.prog 34 [.list (aggs a)] (.tup [.nils, .int .i64 (lcode a [])]) := by
 refine e34 (by simp) fun _ _ => ?_
 simp only [k34, argEnv, go_sem]
 refine (p74n a ha h6).go ?_
 try simp only [OpK_eq, HKv, go_sem]
 exact ⟨fun h1 => Kv.Fin.still ⟨rfl, rfl⟩, fun h1 => absurd h1 hc⟩
end Go.Proofs.YthbbjbfbeaiphaaGreat
end
section
namespace Go.Proofs.YthbbjbfbeaiphaaGreat
open Go.Kv
set_option maxRecDepth 100000
def k107_b0 : KC := (.seq (.seq (.ops [mV 29 8, mV 30 0, oP 31 (.len false (.t 30)), oP 32 (.bin .lss (.t 29) (.t 31))])
 (.cond (.t 32) .skip (.exit 2)))
 (.seq (.block 3 (.seq (.ops [mV 35 0, mV 36 8, oP 37 (.idxS 6 (.t 35) (.t 36)), oP 38 (.load true 6 (.t 37)), mV 39 7, oP 40 (.call (fC 95) [(.t 38), (.t 39)]), mV 9 40])
 (.seq (.ops [mV 41 5, mV 42 9, oP 43 (.call (fC 96) [(.t 41), (.t 42)]), mV 10 43])
 (.seq (.ops [mV 44 10, oP 45 (.len false (.t 44)), mV 46 5, oP 47 (.len false (.t 46)), oP 48 (.bin .gtr (.t 45) (.t 47))])
 (.cond (.t 48) (.seq (.ops [mV 49 10, mV 5 49])
 (.ops [mV 50 6, mV 51 9, oP 52 (.bsl true 2 1 [(.t 51)]), oP 53 (.app (.t 50) (.t 52) 2 1), mV 6 53])) .skip)))))
 (.ops [mV 33 8, oP 34 (.bin .add (.t 33) (iC 1)), mV 8 34])))
def k107_b1 : KC := (.seq (.seq (.ops [mV 15 6, oP 16 (.len false (.t 15)), oP 17 (.bin .gtr (.t 16) (iC 0))])
 (.cond (.t 17) .skip (.exit 0)))
 (.block 1 (.seq (.ops [mV 18 6, mV 19 6, oP 20 (.len false (.t 19)), oP 21 (.bin .sub (.t 20) (iC 1)), oP 22 (.idxS 1 (.t 18) (.t 21)), oP 23 (.load false 1 (.t 22)), mV 7 23])
 (.seq (.ops [mV 24 6, mV 25 6, oP 26 (.len false (.t 25)), oP 27 (.bin .sub (.t 26) (iC 1)), oP 28 (.sls 1 (.t 24) none (some (.t 27))), mV 6 28])
 (.seq (.ops [oP 8 (.mv (iC 0))])
 (.block 2 (.loop k107_b0)))))))
def k107 : KC := (.seq (.ops [oP 4 (.mv (.c (.nils)))])
 (.seq (.ops [mV 11 1, oP 12 (.bsl false 2 1 [(.t 11)]), mV 13 1, oP 14 (.bsl false 2 1 [(.t 13)]), mV 5 12, mV 6 14])
 (.seq (.block 0 (.loop k107_b1))
 (.seq (.ops [mV 54 5, mV 4 54])
 .ret))))
theorem e107 : Ent 107 55 [52] [.t 4] k107 := ent Tryz.func107 (by kernel_rfl) (by kernel_rfl) (by kernel_rfl) (fun _ => by kernel_rfl) (by kernel_rfl)
end Go.Proofs.YthbbjbfbeaiphaaGreat
namespace Go.Proofs.YthbbjbfbeaiphaaGreat
open Go.Kv
set_option linter.unusedVariables false
set_option linter.unusedSimpArgs false
attribute [local irreducible] ACall PCall KL
theorem p107 (fs : List (List Nat)) (n : Nat) (h5 : n ≤ 5) (hf : ∀ f ∈ fs, Ok f n) (hfl : fs.length ≤ 1000) (x : Nat) (h1 : 1 ≤ x) (hx : x < 2 ^ n) : Pure Tryz.prog 107 [.list (aggs (fs.map mp)), .int .i64 x] (.list (ints (nz (imS fs n x)))) := by
 have h32 := pw5 h5
 refine e107 (by simp) fun _ _ => ?_
 simp only [k107, argEnv, go_sem]
 refine KL_freezeAt (id := 0) [0, 5, 6] rfl (env0 := [(0, .list (aggs (fs.map mp))), (5, .ref 0 0 0 1), (6, .ref 1 0 0 1)]) (env' := [(0, .list (aggs (fs.map mp))), (5, .list (ints (nz [x]))), (6, .ref 1 0 0 1)]) (by simp [keep]) (by rfl) (fun t => ?_) ?_
 ·simp only [look_cons, look_nil]
  repeat' split
  ·exact .inl Imm.still
  ·exact .inl (Imm.refn (l := nz [x]) (solo_get rfl) rfl)
  ·exact .inr ⟨rfl, 1, 0, 0, 1, by decide, rfl⟩
  ·exact .inl (.refl _ Plain.undef.up)
 refine KL_ind k107_b1.eq_1 (fun y : Nat × List Nat × List Int × List Nat => [(0, .list (aggs (fs.map mp))), (5, .list (ints (nz y.2.2.2))), (6, .ref 1 y.1 0 y.2.1.length)]) (fun y => [.dead, .arr y.1 2 1 (ints (nz y.2.1 ++ y.2.2.1))])
  (fun y => Srt y.2.2.2 ∧ (∀ b ∈ y.2.2.2, Rc fs n x b) ∧ x ∈ y.2.2.2 ∧ (∀ b ∈ y.2.1, b ∈ y.2.2.2) ∧ (∀ b ∈ y.2.2.2, b ∈ y.2.1 ∨ ∀ f ∈ fs, mvb f n b ∈ y.2.2.2) ∧ 2 * (33 - y.2.2.2.length) + y.2.1.length ≤ 66) (fun y => 2 * (33 - y.2.2.2.length) + y.2.1.length) [0, 5, 6] (0, [x], [], [x]) (by simp [keep]) (by rfl) ?_ fun ⟨ver, st, jk, out⟩ ⟨i1, i2, i3, i4, i5, i6⟩ ih => ?_
 ·refine ⟨⟨by simp, fun y hy => ?_⟩, fun b hb => ?_, by simp, fun b hb => hb, fun b hb => .inl hb, by simp⟩
  ·simp only [List.mem_singleton] at hy; subst hy; exact lt62 h5 hx
  ·simp only [List.mem_singleton] at hb; subst hb; exact .here
 simp only at i1 i2 i3 i4 i5 i6
 have hbnd : ∀ b ∈ out, b < 2 ^ n := fun b hb => ((i2 b hb).bnd hf h1 hx).2
 have hol := srt_len5 i1 h5 hbnd
 have hself : ∀ o : AObj, [AObj.dead, o][1]? = some o := fun o => rfl
 have hset : ∀ o o' : AObj, [AObj.dead, o].set 1 o' = [AObj.dead, o'] := fun o o' => rfl
 try simp only [OpK_eq, HKv, hself, hset, go_sem]
 refine ⟨fun h2 => ?_, fun h2 => ?_⟩
 ·rcases List.eq_nil_or_concat st with rfl | ⟨st, own, rfl⟩
  ·simp at h2
  rw [List.concat_eq_append] at *
  have hl1 : ((st ++ [own]).length : Int) - 1 = (st.length : Int) := by simp
  have hl2 : (((st ++ [own]).length : Int) - 1).toNat = st.length := by rw [hl1]; omega
  have hgd : (nz (st ++ [own]) ++ jk).getD st.length 0 = (own : Int) := by
   simp [nz, List.getD_eq_getElem?_getD]
  have hcon : nz (st ++ [own]) ++ jk = nz st ++ ((own : Int) :: jk) := by simp [nz]
  have hlen : (st ++ [own]).length = st.length + 1 := by simp
  have howm : own ∈ out := i4 own (by simp)
  have hownb := hbnd own howm
  have hstl : st.length ≤ 66 := by omega
  rw [hl2, hl1, hgd, hcon]
  refine ⟨by omega, ⟨by omega, by omega, by rw [nz_len]; omega⟩, by rw [nz_len]; omega, fun _ => ⟨by omega, by omega, ?_⟩⟩
  refine KL_ind k107_b0.eq_1 (fun y : Nat × Nat × List Nat × List Int × List Nat => [(0, .list (aggs (fs.map mp))), (5, .list (ints (nz y.2.2.2.2))), (6, .ref 1 y.2.1 0 y.2.2.1.length), (7, .int .i64 own), (8, .int .i64 y.1)]) (fun y => [.dead, .arr y.2.1 2 1 (ints (nz y.2.2.1 ++ y.2.2.2.1))])
   (fun y => y.1 ≤ fs.length ∧ Srt y.2.2.2.2 ∧ (∀ b ∈ y.2.2.2.2, Rc fs n x b) ∧ x ∈ y.2.2.2.2 ∧ own ∈ y.2.2.2.2 ∧ (∀ b ∈ y.2.2.1, b ∈ y.2.2.2.2) ∧ (∀ b ∈ y.2.2.2.2, b ∈ y.2.2.1 ∨ (b = own ∧ ∀ j, j < y.1 → mvb (fs.getD j []) n own ∈ y.2.2.2.2) ∨ ∀ f ∈ fs, mvb f n b ∈ y.2.2.2.2) ∧ 2 * (33 - y.2.2.2.2.length) + y.2.2.1.length + 1 ≤ 2 * (33 - out.length) + (st.length + 1)) (fun y => fs.length - y.1) [0, 5, 6, 7, 8]
   (0, ver, st, (own : Int) :: jk, out) (by simp [keep]) rfl ⟨Nat.zero_le _, i1, i2, i3, howm, fun b hb => i4 b (by simp [hb]), fun b hb => ?_, by show 2 * (33 - out.length) + st.length + 1 ≤ _; omega⟩ fun ⟨k, ver2, st2, jk2, out2⟩ ⟨hk, j1, j2, j3, j4, j5, j6, j7⟩ ihk => ?_
  ·rcases i5 b hb with h | h
   ·rcases List.mem_append.1 h with h | h
    ·exact .inl h
    ·exact .inr (.inl ⟨by simpa using h, fun j hj => by omega⟩)
   ·exact .inr (.inr h)
  simp only at hk j1 j2 j3 j4 j5 j6 j7
  have hol2 := srt_len5 j1 h5 fun b hb => ((j2 b hb).bnd hf h1 hx).2
  have hstl2 : st2.length ≤ 66 := by omega
  try simp only [OpK_eq, HKv, hself, hset, List.length_map, go_sem]
  refine ⟨fun h3 => ?_, fun h3 => ?_⟩
  ·have hkl : k < fs.length := by omega
   have hfk := hf _ (List.getElem_mem hkl)
   have h6 := hfk.mp_len
   have hgk : (fs.map mp).getD k [] = mp fs[k] := by simp [List.getD_eq_getElem?_getD, hkl]
   have hgf : fs.getD k [] = fs[k] := by simp [List.getD_eq_getElem?_getD, hkl]
   rw [hgk]
   try simp only [OpK_eq, HKv, hself, hset, h6, go_sem]
   refine ⟨by omega, fun _ => ?_⟩
   refine (moved_x fs[k] n hfk hownb).go ?_
   have hmb := mvb_lt hfk own
   have hmr : Rc fs n x (mvb fs[k] n own) := .step _ _ (List.getElem_mem hkl) (j2 own j4)
   generalize hM : mvb fs[k] n own = M at *
   try simp only [OpK_eq, HKv, hself, hset, go_sem]
   refine (p96 out2 M j1 (lt62 h5 hmb) (by omega)).go ?_
   have hpl := putB_len j1 M
   have hps := putB_srt j1 (lt62 h5 hmb)
   have hpm : ∀ b, b ∈ putB out2 M ↔ b = M ∨ b ∈ out2 := fun b => putB_mem
   have hpl2 := srt_len5 hps h5 fun b hb => by
    rcases (hpm b).1 hb with rfl | hb
    ·exact hmb
    ·exact ((j2 b hb).bnd hf h1 hx).2
   have htk : List.take st2.length (nz st2 ++ jk2) = nz st2 := by
    rw [List.take_append_of_le_length (by rw [nz_len]; exact Nat.le_refl _), List.take_of_length_le (by rw [nz_len]; exact Nat.le_refl _)]
   have hcl : ∀ out3 : List Nat, (∀ b ∈ out2, b ∈ out3) → M ∈ out3 → ∀ b ∈ out2, b ∈ st2 ∨ (b = own ∧ ∀ j, j < k + 1 → mvb (fs.getD j []) n own ∈ out3) ∨ ∀ f ∈ fs, mvb f n b ∈ out3 := fun out3 ho hM3 b hb => by
    rcases j6 b hb with h | ⟨rfl, h⟩ | h
    ·exact .inl h
    ·refine .inr (.inl ⟨rfl, fun j hj => ?_⟩)
     by_cases e : j = k
     ·subst e; rw [hgf, hM]; exact hM3
     ·exact ho _ (h j (by omega))
    ·exact .inr (.inr fun f hff => ho _ (h f hff))
   by_cases hin : M ∈ out2
   ·rw [if_pos hin] at hpl
    try simp only [OpK_eq, HKv, hself, hset, nz_len, hpl, htk, go_sem]
    refine ⟨fun h => absurd h (by omega), fun _ => ⟨by omega, ihk (k + 1, ver2, st2, jk2, out2) ⟨by show k + 1 ≤ fs.length; omega, j1, j2, j3, j4, j5, hcl out2 (fun _ h => h) hin, j7⟩ (by show fs.length - (k + 1) < fs.length - k; omega) _ _ (by simp [keep]) rfl⟩⟩
   ·rw [if_neg hin] at hpl
    try simp only [OpK_eq, HKv, hself, hset, nz_len, hpl, htk, go_sem]
    refine ⟨fun _ => ⟨⟨by omega, by omega⟩, by omega, ihk (k + 1, ver2 + 1, st2 ++ [M], [], putB out2 M) ⟨by show k + 1 ≤ fs.length; omega, hps, fun b hb => ?_, (hpm x).2 (.inr j3), (hpm own).2 (.inr j4), fun b hb => ?_, fun b hb => ?_, ?_⟩ (by show fs.length - (k + 1) < fs.length - k; omega) _ _ (by simp [keep]) ?_⟩, fun h => absurd (by omega) h⟩
    ·rcases (hpm b).1 hb with rfl | hb
     ·exact hmr
     ·exact j2 b hb
    ·rcases List.mem_append.1 hb with hb | hb
     ·exact (hpm b).2 (.inr (j5 b hb))
     ·exact (hpm b).2 (.inl (by simpa using hb))
    ·show b ∈ st2 ++ [M] ∨ (b = own ∧ ∀ j, j < k + 1 → mvb (fs.getD j []) n own ∈ putB out2 M) ∨ ∀ f ∈ fs, mvb f n b ∈ putB out2 M
     rcases (hpm b).1 hb with rfl | hb
     ·exact .inl (by simp)
     ·rcases hcl (putB out2 M) (fun c hc => (hpm c).2 (.inr hc)) ((hpm M).2 (.inl rfl)) b hb with h | h
      ·exact .inl (List.mem_append.2 (.inl h))
      ·exact .inr h
    ·show 2 * (33 - (putB out2 M).length) + (st2 ++ [M]).length + 1 ≤ _
     rw [List.length_append, List.length_singleton]
     omega
    ·simp [nz]
  ·obtain rfl : k = fs.length := by omega
   try simp only [go_sem]
   refine ih (ver2, st2, jk2, out2) ⟨j1, j2, j3, j5, fun b hb => ?_, by show 2 * (33 - out2.length) + st2.length ≤ 66; omega⟩ (by show 2 * (33 - out2.length) + st2.length < 2 * (33 - out.length) + (st ++ [own]).length; rw [hlen]; omega) _ _ (by simp [keep]) rfl
   show b ∈ st2 ∨ ∀ f ∈ fs, mvb f n b ∈ out2
   rcases j6 b hb with h | ⟨rfl, h⟩ | h
   ·exact .inl h
   ·refine .inr fun f hff => ?_
    obtain ⟨j, hj, rfl⟩ := List.getElem_of_mem hff
    have := h j hj
    rwa [show fs.getD j [] = fs[j] by simp [List.getD_eq_getElem?_getD, hj]] at this
   ·exact .inr h
 ·have hst : st = [] := List.eq_nil_of_length_eq_zero (by omega)
  subst hst
  have e : out = imS fs n x := srt_uniq i1 (imS_srt h5) fun b => by
   rw [imS_mem h5 hf h1 hx]
   refine ⟨i2 b, fun hb => ?_⟩
   induction hb with
   | here => exact i3
   | step f y hff _ ihy =>
    rcases i5 y ihy with h | h
    ·cases h
    ·exact h f hff
  rw [e]
  try simp only [go_sem]
  exact Kv.Fin.still ⟨rfl, rfl⟩
end Go.Proofs.YthbbjbfbeaiphaaGreat
end
section
namespace Go.Proofs.YthbbjbfbeaiphaaGreat
open Go.Kv
set_option linter.unusedVariables false
set_option linter.unusedSimpArgs false
attribute [local irreducible] ACall PCall KL
structure WG (σ : Heap) (A : Nat → Prop) (q ver : Nat) (ws : List PV) (L : List (List Int)) : Prop where
 out : σ[q]? = some (.arr ver 27 1 ws)
 len : ws.length = L.length
 row : ∀ (i : Nat) (w : PV) (l : List Int), ws[i]? = some w → L[i]? = some l → Wd σ (fun id => A id ∨ id = q) w l
theorem WG.cell {σ : Heap} {A : Nat → Prop} {q ver : Nat} {ws : List PV} {L : List (List Int)} (h : WG σ A q ver ws L) {i : Nat} (hi : i < L.length) : ∃ w, ws[i]? = some w ∧ Wd σ (fun id => A id ∨ id = q) w L[i] := by
 have hw : i < ws.length := by rw [h.len]; exact hi
 exact ⟨ws[i], by simp [hw], h.row i _ _ (by simp [hw]) (by simp [hi])⟩
theorem WG.keep {σ σ' : Heap} {A : Nat → Prop} {q ver : Nat} {ws : List PV} {L : List (List Int)} (h : WG σ A q ver ws L) (hk : ∀ id, id < σ.length → ¬ A id → σ'[id]? = σ[id]?) (hq : ¬ A q) : WG σ' A q ver ws L where
 out := (hk q (List.getElem?_eq_some_iff.1 h.out).1 hq).trans h.out
 len := h.len
 row := fun i w m hw hm => (h.row i w m hw hm).keep fun id hid hA => ⟨hk id hid (fun h => hA (.inl h)), hA⟩
theorem WG.push {σ : Heap} {A : Nat → Prop} {q ver : Nat} {ws : List PV} {L : List (List Int)} (h : WG σ A q ver ws L) {l : List Int} {w : PV} (hw : Wd σ (fun id => A id ∨ id = q) w l) (hl : L.length ≤ 1000) {K : PV → Heap → Prop}
  (hK : WG (σ.set q (.arr (ver + 1) 27 1 (ws ++ [w]))) A q (ver + 1) (ws ++ [w]) (L ++ [l]) → K (.ref q (ver + 1) 0 (L.length + 1)) (σ.set q (.arr (ver + 1) 27 1 (ws ++ [w])))) :
  aApp 27 1 (.ref q ver 0 L.length) (.list [w]) σ K := by
 have hlt := (List.getElem?_eq_some_iff.1 h.out).1
 have hzl := h.len
 have hok : okL 1 [w] = True := by
  rcases hw with ⟨rfl, rfl⟩ | ⟨id, ver, rfl, _, _⟩ <;> simp [okL, PV.cs, PV.ok]
 have hset : ∀ id, id < σ.length → ¬ (A id ∨ id = q) → (σ.set q (.arr (ver + 1) 27 1 (ws ++ [w])))[id]? = σ[id]? ∧ ¬ (A id ∨ id = q) := fun id _ hA => by
  refine ⟨List.getElem?_set_ne ?_, hA⟩
  rintro rfl; exact hA (.inr rfl)
 have hQ : WG (σ.set q (.arr (ver + 1) 27 1 (ws ++ [w]))) A q (ver + 1) (ws ++ [w]) (L ++ [l]) := by
  refine ⟨List.getElem?_set_self hlt, by simp [h.len], fun i w' m hw' hm => ?_⟩
  rw [List.getElem?_append] at hw' hm
  split at hw'
  ·rename_i hi
   rw [if_pos (by rw [← h.len]; exact hi)] at hm
   exact (h.row i w' m hw' hm).keep hset
  ·rename_i hi
   rw [if_neg (by rw [← h.len]; exact hi)] at hm
   have e1 := List.mem_of_getElem? hw'
   have e2 := List.mem_of_getElem? hm
   simp only [List.mem_singleton] at e1 e2
   subst e1; subst e2
   exact hw.keep hset
 simp only [aApp_ref, h.out, AppR_arr, aNews_list, hok, true_and, AppM_def]
 rw [List.take_of_length_le (by omega)]
 exact ⟨⟨by omega, by simp; omega⟩, hK hQ⟩
end Go.Proofs.YthbbjbfbeaiphaaGreat
end
section
namespace Go.Proofs.YthbbjbfbeaiphaaGreat
open Go.Kv
set_option linter.unusedVariables false
set_option linter.unusedSimpArgs false
attribute [local irreducible] ACall PCall KL
def ords (n : Nat) : Nat → List Nat → List (List Nat)
 | 0, p => [p]
 | d + 1, p => ((List.range n).map fun q => if q ∈ p then [] else ords n d (p ++ [q])).flatten
theorem ords_mem (n : Nat) : ∀ (d : Nat) (p : List Nat), (∀ x ∈ p, x < n) → ∀ f ∈ ords n d p, f.length = p.length + d ∧ ∀ x ∈ f, x < n
 | 0, p, hp, f, hf => by
  simp only [ords, List.mem_singleton] at hf
  subst hf; exact ⟨rfl, hp⟩
 | d + 1, p, hp, f, hf => by
  simp only [ords, List.mem_flatten, List.mem_map, List.mem_range] at hf
  obtain ⟨l, ⟨q, hq, rfl⟩, hf⟩ := hf
  split at hf
  ·simp at hf
  ·obtain ⟨h1, h2⟩ := ords_mem n d (p ++ [q]) (fun x hx => by
    rcases List.mem_append.1 hx with hx | hx
    ·exact hp x hx
    ·simp at hx; omega) f hf
   exact ⟨by simp at h1; omega, h2⟩
def wds (n : Nat) : Nat → List (List Nat)
 | 0 => [[]]
 | d + 1 => ((List.range n).map fun q => (wds n d).map (q :: ·)).flatten
theorem dg_mod (n : Nat) (hn : 1 ≤ n) : ∀ (d k q : Nat), dg n d (q * n ^ d + k) = dg n d k
 | 0, k, q => rfl
 | d + 1, k, q => by
  have hp : 0 < n ^ d := Nat.pow_pos hn
  have e : q * n ^ (d + 1) + k = (q * n) * n ^ d + k := by rw [Nat.pow_succ, Nat.mul_assoc, Nat.mul_comm n]
  simp only [dg]
  rw [e, dg_mod n hn d k (q * n)]
  congr 1
  rw [Nat.add_comm, Nat.add_mul_div_right _ _ hp, Nat.add_mul_mod_self_right]
theorem range_mul (a b : Nat) : List.range (a * b) = ((List.range a).map fun q => (List.range b).map fun k => q * b + k).flatten := by
 induction a with
 | zero => simp
 | succ a ih =>
  rw [Nat.succ_mul, List.range_add, ih, List.range_succ, List.map_append, List.flatten_append]
  simp
theorem wds_dg (n : Nat) (hn : 1 ≤ n) : ∀ d, (List.range (n ^ d)).map (dg n d) = wds n d
 | 0 => rfl
 | d + 1 => by
  have hp : 0 < n ^ d := Nat.pow_pos hn
  rw [Nat.pow_succ, Nat.mul_comm, range_mul, wds, ← wds_dg n hn d, List.map_flatten, List.map_map]
  congr 1
  refine List.map_congr_left fun q hq => ?_
  rw [List.mem_range] at hq
  simp only [Function.comp_def, List.map_map]
  refine List.map_congr_left fun k hk => ?_
  rw [List.mem_range] at hk
  show dg n (d + 1) (q * n ^ d + k) = q :: dg n d k
  simp only [dg]
  rw [dg_mod n hn d k q, Nat.add_comm, Nat.add_mul_div_right _ _ hp, Nat.div_eq_of_lt hk, Nat.zero_add, Nat.mod_eq_of_lt hq]
def prm (n : Nat) : List (List Nat) := (allM n).filter fun f => decide f.Nodup
theorem Imm.refa' {σ : Heap} {id ver k : Nat} {e : TypeId} {n : Nat} {l : List (List Int)} (h : σ[id]? = some (.arr ver e n (aggs l))) (hk : k = l.length) : Imm σ (.ref id ver 0 k) (.list (aggs l)) := hk ▸ Imm.refa h
theorem wds_mem (n : Nat) : ∀ f : List Nat, (∀ x ∈ f, x < n) → f ∈ wds n f.length
 | [], _ => by simp [wds]
 | a :: f, h => by
  simp only [List.length_cons, wds, List.mem_flatten, List.mem_map, List.mem_range]
  exact ⟨_, ⟨a, h a (by simp), rfl⟩, List.mem_map.2 ⟨f, wds_mem n f fun x hx => h x (by simp [hx]), rfl⟩⟩
theorem allM_mem {n : Nat} (hn : 1 ≤ n) {f : List Nat} (hl : f.length = n) (h : ∀ x ∈ f, x < n) : f ∈ allM n := by
 have := wds_mem n f h
 rw [hl, ← wds_dg n hn n] at this
 exact this
end Go.Proofs.YthbbjbfbeaiphaaGreat
end
section

end
section
namespace Go.Proofs.YthbbjbfbeaiphaaGreat
open Go.Kv
set_option linter.unusedVariables false
set_option linter.unusedSimpArgs false
attribute [local irreducible] ACall PCall KL
def kept (f : List Nat) (n x : Nat) : Nat := (((prm n).take x).filter fun g => decide (mul f g = mul g f)).length
end Go.Proofs.YthbbjbfbeaiphaaGreat
end
section
namespace Go.Proofs.YthbbjbfbeaiphaaGreat
open Go.Kv
set_option linter.unusedVariables false
set_option linter.unusedSimpArgs false
attribute [local irreducible] ACall PCall KL
def cmpL : List Int → List Int → Int
 | a :: xs, b :: ys => if a < b then -1 else if b < a then 1 else cmpL xs ys
 | _, _ => 0
theorem cmpL_same : ∀ l, cmpL l l = 0
 | [] => rfl
 | a :: l => by simp [cmpL, cmpL_same l]
theorem cmpL_app : ∀ (xs ys zs : List Int), xs.length = ys.length → cmpL (xs ++ zs) (ys ++ zs) = cmpL xs ys
 | [], [], zs, _ => by simp [cmpL, cmpL_same]
 | a :: xs, b :: ys, zs, h => by
  simp only [List.cons_append, cmpL]
  rw [cmpL_app xs ys zs (by simpa using h)]
 | [], _ :: _, _, h => by simp at h
 | _ :: _, [], _, h => by simp at h
def ltM (f g : List Nat) : Bool := decide (cmpL (f.map fun x : Nat => (x : Int)) (g.map fun x : Nat => (x : Int)) < 0)
end Go.Proofs.YthbbjbfbeaiphaaGreat
end
section

end
section
namespace Go.Proofs.YthbbjbfbeaiphaaGreat
open Go.Kv
set_option linter.unusedVariables false
set_option linter.unusedSimpArgs false
attribute [local irreducible] ACall PCall KL
def nbl (n : Nat) : List Nat → Nat
 | [] => 0
 | a :: r => a * n ^ r.length + nbl n r
theorem nbl_lt {n : Nat} : ∀ {l : List Nat}, (∀ x ∈ l, x < n) → nbl n l < n ^ l.length
 | [], _ => by simp [nbl]
 | a :: r, h => by
  have h1 := nbl_lt (l := r) fun x hx => h x (by simp [hx])
  have h2 := h a (by simp)
  simp only [nbl, List.length_cons, Nat.pow_succ]
  have h3 : (a + 1) * n ^ r.length ≤ n * n ^ r.length := Nat.mul_le_mul_right _ h2
  rw [Nat.succ_mul] at h3
  rw [Nat.mul_comm (n ^ r.length) n]
  omega
theorem cmp_nbl {n : Nat} : ∀ (f g : List Nat), f.length = g.length → (∀ x ∈ f, x < n) → (∀ x ∈ g, x < n) → (cmpL (f.map fun x : Nat => (x : Int)) (g.map fun x : Nat => (x : Int)) < 0 ↔ nbl n f < nbl n g)
 | [], [], _, _, _ => by simp [cmpL]
 | [], _ :: _, h, _, _ => by simp at h
 | _ :: _, [], h, _, _ => by simp at h
 | a :: r, b :: s, h, hf, hg => by
  have hl : r.length = s.length := by simpa using h
  have ih := cmp_nbl r s hl (fun x hx => hf x (by simp [hx])) (fun x hx => hg x (by simp [hx]))
  have h1 := nbl_lt (l := r) fun x hx => hf x (by simp [hx])
  have h2 := nbl_lt (l := s) fun x hx => hg x (by simp [hx])
  simp only [List.map_cons, cmpL, nbl]
  rw [hl] at h1 ⊢
  by_cases e1 : a < b
  ·have h3 : (a + 1) * n ^ s.length ≤ b * n ^ s.length := Nat.mul_le_mul_right _ e1
   rw [Nat.succ_mul] at h3
   rw [if_pos (by omega)]
   constructor
   ·intro _; omega
   ·intro _; omega
  ·by_cases e2 : b < a
   ·have h3 : (b + 1) * n ^ s.length ≤ a * n ^ s.length := Nat.mul_le_mul_right _ e2
    rw [Nat.succ_mul] at h3
    rw [if_neg (by omega), if_pos (by omega)]
    constructor
    ·intro h; omega
    ·intro _; omega
   ·obtain rfl : a = b := by omega
    rw [if_neg (by omega), if_neg (by omega), ih]
    omega
theorem ltM_nbl {f g : List Nat} {n : Nat} (hf : Ok f n) (hg : Ok g n) : ltM f g = true ↔ nbl n f < nbl n g := by
 unfold ltM
 rw [decide_eq_true_iff]
 exact cmp_nbl f g (by rw [hf.len, hg.len]) hf.lt hg.lt
theorem nbl_dg {n : Nat} (hn : 1 ≤ n) : ∀ j k, nbl n (dg n j k) = k % n ^ j
 | 0, k => by simp [dg, nbl, Nat.mod_one]
 | j + 1, k => by
  simp only [dg, nbl, dg_length, nbl_dg hn j k]
  rw [Nat.pow_succ, Nat.mod_mul, Nat.mul_comm, Nat.add_comm]
theorem nbl_at {n k : Nat} (hn : 1 ≤ n) (hk : k < n ^ n) : nbl n (dg n n k) = k := by rw [nbl_dg hn, Nat.mod_eq_of_lt hk]
theorem dg_nbl {n : Nat} {f : List Nat} (hf : Ok f n) : nbl n f < n ^ n ∧ dg n n (nbl n f) = f := by
 have h := allM_mem hf.pos hf.len hf.lt
 simp only [allM, List.mem_map, List.mem_range] at h
 obtain ⟨k, hk, rfl⟩ := h
 rw [nbl_at hf.pos hk]
 exact ⟨hk, rfl⟩
theorem nbl_inj {n : Nat} {f g : List Nat} (hf : Ok f n) (hg : Ok g n) (h : nbl n f = nbl n g) : f = g := by
 rw [← (dg_nbl hf).2, h, (dg_nbl hg).2]
end Go.Proofs.YthbbjbfbeaiphaaGreat
end
section
namespace Go.Proofs.YthbbjbfbeaiphaaGreat
open Go.Kv
set_option linter.unusedVariables false
set_option linter.unusedSimpArgs false
attribute [local irreducible] ACall PCall KL
def bls (m : List Bool) : List PV := m.map PV.bool
@[simp] theorem bls_length (m : List Bool) : (bls m).length = m.length := by simp [bls]
theorem bls_get {m : List Bool} {i : Nat} (h : i < m.length) : (bls m)[i]? = some (.bool (m.getD i false)) := by
 simp [bls, List.getD_eq_getElem?_getD, h]
theorem bls_set (m : List Bool) (i : Nat) (b : Bool) : (bls m).set i (.bool b) = bls (m.set i b) := by simp [bls, List.map_set]
end Go.Proofs.YthbbjbfbeaiphaaGreat
end
