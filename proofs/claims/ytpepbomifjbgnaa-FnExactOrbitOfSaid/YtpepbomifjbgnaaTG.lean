/- Tables that are owned: rows that lie anywhere in their arrays, or are nil. -/
import Derived.Test.YtpepbomifjbgnaaFC
namespace Go.Kv
set_option linter.unusedVariables false
set_option linter.unusedSimpArgs false
/-- Where a row lies. -/
structure Rw where
  nil : Bool
  id : Nat
  ver : Nat
  pre : List Int
  post : List Int
def Rw.pv (r : Rw) (l : List Int) : PV := if r.nil = true then .nils else .ref r.id r.ver r.pre.length l.length
structure Rw.at (e1 : TypeId) (σ : Heap) (r : Rw) (l : List Int) : Prop where
  nl : r.nil = true → l = []
  ow : r.nil = false → σ[r.id]? = some (.arr r.ver e1 1 (ints (r.pre ++ l ++ r.post)))
def pvs (rs : List Rw) (t : List (List Int)) : List PV := List.zipWith Rw.pv rs t
theorem pvs_length {rs : List Rw} {t : List (List Int)} (h : rs.length = t.length) : (pvs rs t).length = t.length := by simp [pvs, h]
theorem pvs_get {rs : List Rw} {t : List (List Int)} {i : Nat} {x : PV} (h : (pvs rs t)[i]? = some x) : ∃ r l, rs[i]? = some r ∧ t[i]? = some l ∧ x = r.pv l := by
  simp only [pvs, List.getElem?_zipWith] at h
  cases hr : rs[i]? with
  | none => simp [hr] at h
  | some r =>
    cases hl : t[i]? with
    | none => simp [hr, hl] at h
    | some l => simp [hr, hl] at h; exact ⟨r, l, rfl, rfl, h.symm⟩
theorem pvs_snoc {rs : List Rw} {t : List (List Int)} (h : rs.length = t.length) (r : Rw) (l : List Int) : pvs (rs ++ [r]) (t ++ [l]) = pvs rs t ++ [r.pv l] := by
  simp [pvs, List.zipWith_append h]
theorem pv_cases (r : Rw) (l : List Int) : r.pv l = .nils ∨ ∃ a b c d, r.pv l = .ref a b c d := by
  unfold Rw.pv; split
  · exact .inl rfl
  · exact .inr ⟨_, _, _, _, rfl⟩
/-- In heap σ, object id is a table t; its rows lie as told. e2, e1: the types of a row, of a number. -/
structure TabG (e2 e1 : TypeId) (σ : Heap) (id ver : Nat) (rs : List Rw) (t : List (List Int)) : Prop where
  out : ∃ junk, σ[id]? = some (.arr ver e2 1 (pvs rs t ++ junk))
  len : rs.length = t.length
  row : ∀ (i : Nat) (r : Rw) (l : List Int), rs[i]? = some r → t[i]? = some l → r.at e1 σ l
  nd : ∀ (i j : Nat) (r q : Rw), rs[i]? = some r → rs[j]? = some q → r.nil = false → q.nil = false → r.id = q.id → i = j
  ni : ∀ r ∈ rs, r.nil = false → r.id ≠ id
variable {e2 e1 : TypeId} {σ : Heap} {id ver : Nat} {rs : List Rw} {t : List (List Int)}
theorem Rw.at.imm {r : Rw} {l : List Int} (h : r.at e1 σ l) : Imm σ (r.pv l) (.list (ints l)) := by
  unfold Rw.pv
  split
  · rename_i hn; rw [h.nl hn]; exact .nils
  · rename_i hn; exact .refp (h.ow (by simpa using hn)) rfl rfl
theorem TabG.imm (h : TabG e2 e1 σ id ver rs t) {n : Nat} (hn : n = t.length) : Imm σ (.ref id ver 0 n) (.list (rows t)) := by
  subst hn
  obtain ⟨junk, ho⟩ := h.out
  have hpl := pvs_length h.len
  refine .ref id ver 0 t.length e2 1 (pvs rs t ++ junk) (rows t) ho (by simp [hpl]) (rows_length t) (fun i x d hx hd => ?_) (fun i x d j c c' hx hd hc hc' => ?_)
  all_goals rw [Nat.zero_add] at hx
  all_goals have hi := (List.getElem?_eq_some_iff.1 hd).1
  all_goals rw [rows_length] at hi
  all_goals rw [List.getElem?_append_left (by rw [hpl]; exact hi)] at hx
  all_goals obtain ⟨r, l, hr, hl, rfl⟩ := pvs_get hx
  all_goals obtain ⟨y, hy, rfl⟩ := rows_get hd
  · rcases pv_cases r l with e | ⟨a, b, c, d, e⟩ <;> rw [e] <;> exact ⟨rfl, rfl⟩
  · rw [hl] at hy; cases hy
    have h2 := List.mem_of_getElem? hc'
    simp only [PV.cs, List.mem_singleton] at h2; subst h2
    have h1 : c = r.pv l := by
      have h1 := List.mem_of_getElem? hc
      rcases pv_cases r l with e | ⟨a, b, cc, d, e⟩ <;> rw [e] at h1 ⊢ <;> simpa [PV.cs] using h1
    subst h1
    exact (h.row i r l hr hl).imm
theorem Rw.at.keep {r : Rw} {l : List Int} {σ' : Heap} (h : r.at e1 σ l) (hs : r.nil = false → σ'[r.id]? = σ[r.id]?) : r.at e1 σ' l := ⟨h.nl, fun hn => (hs hn).trans (h.ow hn)⟩
theorem TabG.keep (h : TabG e2 e1 σ id ver rs t) {σ' : Heap} (h1 : σ'[id]? = σ[id]?) (h2 : ∀ r ∈ rs, r.nil = false → σ'[r.id]? = σ[r.id]?) : TabG e2 e1 σ' id ver rs t where
  out := by obtain ⟨junk, ho⟩ := h.out; exact ⟨junk, h1.trans ho⟩
  len := h.len
  row := fun i r l hr hl => (h.row i r l hr hl).keep (h2 r (List.mem_of_getElem? hr))
  nd := h.nd
  ni := h.ni
theorem TabG.lt (h : TabG e2 e1 σ id ver rs t) : id < σ.length ∧ ∀ r ∈ rs, r.nil = false → r.id < σ.length := by
  obtain ⟨junk, ho⟩ := h.out
  refine ⟨(List.getElem?_eq_some_iff.1 ho).1, fun r hr hn => ?_⟩
  obtain ⟨i, hi⟩ := List.getElem?_of_mem hr
  have hlt := (List.getElem?_eq_some_iff.1 hi).1
  have := h.row i r (t[i]'(h.len ▸ hlt)) hi (List.getElem?_eq_getElem (h.len ▸ hlt))
  exact (List.getElem?_eq_some_iff.1 (this.ow hn)).1
theorem TabG.append (h : TabG e2 e1 σ id ver rs t) (τ : Heap) : TabG e2 e1 (σ ++ τ) id ver rs t :=
  h.keep (List.getElem?_append_left h.lt.1) fun r hr hn => List.getElem?_append_left (h.lt.2 r hr hn)
/-- The rows' objects. -/
def Rw.sh (n : Nat) (r : Rw) : Rw := { r with id := r.id + n }
theorem pv_ren (n : Nat) (r : Rw) (l : List Int) : (r.pv l).ren (Kv.sh n) = (r.sh n).pv l := by
  unfold Rw.pv Rw.sh
  simp only
  split
  · simp [PV.ren]
  · simp only [ren_ref, sh_def]
theorem TabG.shift (h : TabG e2 e1 σ id ver rs t) (τ : Heap) : TabG e2 e1 (τ ++ σ.map (AObj.ren (Kv.sh τ.length))) (id + τ.length) ver (rs.map (Rw.sh τ.length)) t where
  out := by
    obtain ⟨junk, ho⟩ := h.out
    refine ⟨junk.map (PV.ren (Kv.sh τ.length)), ?_⟩
    rw [List.getElem?_append_right (by omega), Nat.add_sub_cancel, List.getElem?_map, ho]
    simp only [Option.map_some, ren_arr, Option.some.injEq, AObj.arr.injEq, true_and, List.map_append]
    congr 1
    simp only [pvs, List.map_zipWith, List.zipWith_map_left, pv_ren]
  len := by simp [h.len]
  row := fun i r l hr hl => by
    simp only [List.getElem?_map, Option.map_eq_some_iff] at hr
    obtain ⟨q, hq, rfl⟩ := hr
    have := h.row i q l hq hl
    refine ⟨this.nl, fun hn => ?_⟩
    simp only [Rw.sh]
    rw [List.getElem?_append_right (by omega), Nat.add_sub_cancel, List.getElem?_map, this.ow hn]
    simp only [Option.map_some, ren_arr, ren_ints]
  nd := fun i j r q hr hq h1 h2 h3 => by
    simp only [List.getElem?_map, Option.map_eq_some_iff] at hr hq
    obtain ⟨r', hr', rfl⟩ := hr
    obtain ⟨q', hq', rfl⟩ := hq
    simp only [Rw.sh] at h1 h2 h3
    exact h.nd i j r' q' hr' hq' h1 h2 (by omega)
  ni := fun r hr hn => by
    obtain ⟨q, hq, rfl⟩ := List.mem_map.1 hr
    have := h.ni q hq hn
    simp only [Rw.sh]; omega
/-- One row is written. -/
theorem TabG.set (h : TabG e2 e1 σ id ver rs t) {i : Nat} {r : Rw} (hr : rs[i]? = some r) (hn : r.nil = false) {l m : List Int} (hl : t[i]? = some l) (hm : m.length = l.length) :
    TabG e2 e1 (σ.set r.id (.arr r.ver e1 1 (ints (r.pre ++ m ++ r.post)))) id ver rs (t.set i m) := by
  have hit := (List.getElem?_eq_some_iff.1 hl).1
  have hrl := h.lt.2 r (List.mem_of_getElem? hr) hn
  have hpv : ∀ (q : Rw), q.pv m = q.pv l := fun q => by simp [Rw.pv, hm]
  refine ⟨?_, by simp [h.len], fun j q n hq hj => ?_, h.nd, h.ni⟩
  · obtain ⟨junk, ho⟩ := h.out
    refine ⟨junk, ?_⟩
    rw [List.getElem?_set_ne (h.ni r (List.mem_of_getElem? hr) hn), ho]
    congr 3
    apply List.ext_getElem?; intro j
    simp only [pvs, List.getElem?_zipWith, List.getElem?_set]
    by_cases e : i = j
    · subst e
      simp only [if_pos hit, if_true, hr, hl, hpv]
    · rw [if_neg e]
  · by_cases e : i = j
    · subst e
      rw [hr] at hq; cases hq
      rw [List.getElem?_set_self hit] at hj; cases hj
      exact ⟨fun h => absurd h (by simp [hn]), fun _ => List.getElem?_set_self hrl⟩
    · rw [List.getElem?_set_ne e] at hj
      exact (h.row j q n hq hj).keep fun hqn => List.getElem?_set_ne fun e2 => e (h.nd i j r q hr hq hn hqn e2)
theorem TabG.free (h : ∀ o ∈ σ, AObj.free o) : True := trivial
/-- A slice value of rows: nil, or a table. -/
inductive TabN (e2 e1 : TypeId) (σ : Heap) : PV → List (List Int) → Prop
  | nil : TabN e2 e1 σ .nils []
  | tab (id ver : Nat) (rs : List Rw) (t : List (List Int)) (h : TabG e2 e1 σ id ver rs t) : TabN e2 e1 σ (.ref id ver 0 t.length) t
theorem TabN.imm {v : PV} (h : TabN e2 e1 σ v t) : Imm σ v (.list (rows t)) := by
  cases h with
  | nil => exact .nils
  | tab id ver rs t h => exact h.imm rfl
theorem TabN.append {v : PV} (h : TabN e2 e1 σ v t) (τ : Heap) : TabN e2 e1 (σ ++ τ) v t := by
  cases h with
  | nil => exact .nil
  | tab id ver rs t h => exact .tab id ver rs t (h.append τ)
theorem TabN.shift {v : PV} (h : TabN e2 e1 σ v t) (τ : Heap) : TabN e2 e1 (τ ++ σ.map (AObj.ren (Kv.sh τ.length))) (v.ren (Kv.sh τ.length)) t := by
  cases h with
  | nil => simp only [ren_nils]; exact .nil
  | tab id ver rs t h => simp only [ren_ref, sh_def]; exact .tab _ _ _ t (h.shift τ)
/-- A new row, of what is new in the heap, is put at the end. -/
theorem TabN.push {v : PV} (h : TabN e2 e1 σ v t) {τ : Heap} {l : List Int} {r : Rw} (hr : r.at e1 (σ ++ τ) l) (hge : r.nil = false → σ.length ≤ r.id) (hn : t.length < 4294967296) {K : PV → Heap → Prop}
    (hK : ∀ v' σ', TabN e2 e1 σ' v' (t ++ [l]) → (∀ o ∈ σ', o ∈ σ ++ τ ∨ ∃ ver rs, o = .arr ver e2 1 (pvs rs (t ++ [l]))) → K v' σ') : aApp e2 1 v (.list [r.pv l]) (σ ++ τ) K := by
  have hok : okL 1 [r.pv l] := by
    rcases pv_cases r l with e | ⟨a, b, c, d, e⟩ <;> rw [e] <;> simp [okL, PV.cs, PV.ok]
  cases h with
  | nil =>
    rw [aApp_nils, aNews_list, AppN_def]
    refine ⟨hok, by simp, ?_⟩
    refine hK _ _ (.tab (σ ++ τ).length 0 [r] [l] ⟨⟨[], by simp [pvs]⟩, rfl, fun i q m hq hm => ?_, fun i j q p hq hp _ _ _ => ?_, fun q hq hqn => ?_⟩) (fun o ho => ?_)
    · cases i with
      | zero =>
        simp at hq hm; subst hq; subst hm
        exact hr.keep fun hrn => List.getElem?_append_left (List.getElem?_eq_some_iff.1 (hr.ow hrn)).1
      | succ i => simp at hq
    · have h1 := (List.getElem?_eq_some_iff.1 hq).1
      have h2 := (List.getElem?_eq_some_iff.1 hp).1
      simp at h1 h2; omega
    · simp at hq; subst hq
      have := (List.getElem?_eq_some_iff.1 (hr.ow hqn)).1
      omega
    · rcases List.mem_append.1 ho with ho | ho
      · exact .inl ho
      · simp at ho; subst ho; exact .inr ⟨0, [r], by simp [pvs]⟩
  | tab id ver rs t h =>
    obtain ⟨junk, ho⟩ := (h.append τ).out
    have hpl := pvs_length h.len
    have hlt := h.lt
    have hid : id < (σ ++ τ).length := by simp; omega
    rw [aApp_ref, ho, AppR_arr, aNews_list, AppM_def]
    refine ⟨hok, ⟨rfl, rfl, rfl, rfl, by simp [hpl], by simp; omega⟩, ?_⟩
    have hself : ∀ o, ((σ ++ τ).set id o)[id]? = some o := fun o => List.getElem?_set_self hid
    have ht : t.length + [r.pv l].length = (t ++ [l]).length := by simp
    have htk : (pvs rs t ++ junk).take t.length ++ [r.pv l] = pvs (rs ++ [r]) (t ++ [l]) := by
      rw [pvs_snoc h.len, ← hpl, List.take_left]
    rw [ht, htk]
    refine hK _ _ (.tab id (ver + 1) (rs ++ [r]) (t ++ [l]) ⟨⟨[], ?_⟩, by simp [h.len], fun i q m hq hm => ?_, fun i j q p hq hp h1 h2 h3 => ?_, fun q hq hqn => ?_⟩) (fun o ho => ?_)
    · rw [hself, List.append_nil]
    · rw [List.getElem?_append] at hq hm
      split at hq
      · rename_i hi
        rw [if_pos (by rw [← h.len]; exact hi)] at hm
        exact ((h.append τ).row i q m hq hm).keep fun hqn => List.getElem?_set_ne (Ne.symm (h.ni q (List.mem_of_getElem? hq) hqn))
      · rename_i hi
        rw [if_neg (by rw [← h.len]; exact hi)] at hm
        have e1 := List.mem_of_getElem? hq
        have e2 := List.mem_of_getElem? hm
        simp at e1 e2; subst e1; subst e2
        exact hr.keep fun hrn => List.getElem?_set_ne (by have := hge hrn; omega)
    · rw [List.getElem?_append] at hq hp
      have hlast : ∀ (k : Nat) (x : Rw), ¬ k < rs.length → [r][k - rs.length]? = some x → x = r ∧ k = rs.length := fun k x hk hx => by
        have h5 := (List.getElem?_eq_some_iff.1 hx).1
        have h4 := List.mem_of_getElem? hx
        simp at h4 h5
        exact ⟨h4, by omega⟩
      split at hq <;> split at hp
      · exact h.nd i j q p hq hp h1 h2 h3
      · rename_i hj
        obtain ⟨rfl, _⟩ := hlast j p hj hp
        have := hlt.2 q (List.mem_of_getElem? hq) h1
        have := hge h2
        omega
      · rename_i hi _
        obtain ⟨rfl, _⟩ := hlast i q hi hq
        have := hlt.2 p (List.mem_of_getElem? hp) h2
        have := hge h1
        omega
      · rename_i hi hj
        obtain ⟨_, rfl⟩ := hlast i q hi hq
        obtain ⟨_, rfl⟩ := hlast j p hj hp
        rfl
    · rcases List.mem_append.1 hq with hq | hq
      · exact h.ni q hq hqn
      · simp at hq; subst hq
        have := hge hqn
        omega
    · rcases List.mem_or_eq_of_mem_set ho with ho | rfl
      · exact .inl ho
      · exact .inr ⟨_, _, rfl⟩
theorem TabN.empty : TabN e2 e1 [.arr 0 e2 1 []] (.ref 0 0 0 0) [] := .tab 0 0 [] [] ⟨⟨[], rfl⟩, rfl, fun i r l h => by simp at h, fun i j r q h => by simp at h, fun r h => by simp at h⟩
/-- Objects whose values hang on nothing that is frozen. -/
def Free (σ : Heap) : Prop := ∀ o ∈ σ, AObj.free o
theorem Free.nil : Free [] := fun o h => by simp at h
theorem Free.append {σ τ : Heap} (h : Free σ) (h' : Free τ) : Free (σ ++ τ) := fun o ho => by
  rcases List.mem_append.1 ho with ho | ho
  · exact h o ho
  · exact h' o ho
theorem free_ints {v : Nat} {e : TypeId} {s : Nat} (l : List Int) : AObj.free (.arr v e s (ints l)) := fun c hc => by
  rw [flat_ints] at hc; exact (Plain.ints _ c hc).fr
theorem Free.ints (v : Nat) (e : TypeId) (s : Nat) (l : List Int) : Free [.arr v e s (Kv.ints l)] := fun o ho => by
  simp at ho; subst ho; exact free_ints l
theorem Free.empty (v : Nat) (e : TypeId) (s : Nat) : Free [.arr v e s []] := fun o ho => by
  simp at ho; subst ho; intro c hc; simp [flat] at hc
theorem free_pvs {v : Nat} {e : TypeId} {s : Nat} (rs : List Rw) (t : List (List Int)) : AObj.free (.arr v e s (pvs rs t)) := fun c hc => by
  obtain ⟨x, hx, hcx⟩ := List.mem_flatMap.1 hc
  obtain ⟨i, hi⟩ := List.getElem?_of_mem hx
  obtain ⟨r, l, _, _, rfl⟩ := pvs_get hi
  rcases pv_cases r l with e | ⟨a, b, cc, d, e⟩ <;> rw [e] at hcx <;> simp [PV.cs] at hcx <;> subst hcx
  · exact Plain.nils.fr
  · exact free_ref _ _ _ _
/-- A new row, of its own object at the heap's end. -/
theorem TabN.pushNew {v : PV} (h : TabN e2 e1 σ v t) (hf : Free σ) {l pre post : List Int} {vr n o : Nat} (hl : n = l.length) (ho : o = pre.length) (hn : t.length < 4294967296) {K : PV → Heap → Prop}
    (hK : ∀ v' σ', TabN e2 e1 σ' v' (t ++ [l]) → Free σ' → K v' σ') : aApp e2 1 v (.list [.ref σ.length vr o n]) (σ ++ [.arr vr e1 1 (ints (pre ++ l ++ post))]) K := by
  subst hl; subst ho
  refine h.push (r := ⟨false, σ.length, vr, pre, post⟩) (l := l) ⟨fun h => (by cases h), fun _ => (by simp)⟩ (fun _ => Nat.le_refl _) hn (fun v' σ' h1 h2 => hK v' σ' h1 fun o ho => ?_)
  rcases h2 o ho with ho | ⟨ver, rs, rfl⟩
  · exact (hf.append (.ints _ _ _ _)) o ho
  · exact free_pvs rs _
theorem TabN.pushRow {v : PV} (h : TabN e2 e1 σ v t) (hf : Free σ) (l : List Int) {vr n : Nat} (hl : n = l.length) (hn : t.length < 4294967296) {K : PV → Heap → Prop}
    (hK : ∀ v' σ', TabN e2 e1 σ' v' (t ++ [l]) → Free σ' → K v' σ') : aApp e2 1 v (.list [.ref σ.length vr 0 n]) (σ ++ [.arr vr e1 1 (ints l)]) K := by
  have := h.pushNew hf (l := l) (pre := []) (post := []) (vr := vr) (o := 0) hl rfl hn hK
  simpa only [List.nil_append, List.append_nil] using this
theorem TabN.freeze {v : PV} {T : List (List Int)} {r : Int} {K : PV → Heap → Prop} (h : TabN e2 e1 σ v T) (hk : K (.tup [.list (rows T), .int .i64 r]) []) : Fin 0 K (.tup [v, .int .i64 r]) σ :=
  Fin.freeze (Imm.tupL (.cons h.imm (.cons (.int _ _ _) (.nil _)))) hk
/-- What a call hands back, looked at otherwise. -/
theorem ACall.ret {P : Program} {f : FuncId} {args : List PV} {K K' : PV → Heap → Prop} (h : ACall P f args [] K) (hk : ∀ v s, K v s → Fin 0 K' v s) : ACall P f args [] K' :=
  ⟨h.1, fun φ ι w vs hr ho => (h.2 φ ι w vs hr ho).mono fun e w' ⟨v, v', φ', ι', σ', h1, h2, h3, h4, h5⟩ => by
    obtain ⟨u, s, hret, hK⟩ := hk v σ' h5
    obtain ⟨φ2, ι2, g1, g2, g3⟩ := hret φ' ι' w' v' (Nat.zero_le _) h4 h2
    exact ⟨u, v', φ2, ι2, s, h1, g3, h3.trans g1, g2, hK⟩⟩
/-- A call that hands back new rows of one's own, and a number. -/
def NewTN (P : Program) (f : FuncId) (args : List PV) (e2 e1 : TypeId) (T : List (List Int)) (r : Int) : Prop :=
  ACall P f args [] fun v s => ∃ x, v = .tup [x, .int .i64 r] ∧ TabN e2 e1 s x T ∧ Free s
theorem TabN.up {v : PV} (h : TabN e2 e1 σ v t) : v.free := by
  cases h with
  | nil => exact Plain.nils.fr
  | tab id ver rs t h => exact free_ref _ _ _ _
theorem NewTN.call {P : Program} {f : FuncId} {args : List PV} {T : List (List Int)} {r : Int} (h : NewTN P f args e2 e1 T r) {σ : Heap} {K : PV → Heap → Prop} [ha : StillL args]
    (hk : ∀ (x : PV) (s : Heap), (∀ τ, TabN e2 e1 (σ ++ s ++ τ) x T) → (x = .nils ∨ ∃ id ver rs, x = .ref id ver 0 T.length ∧ σ.length ≤ id ∧ (∀ r ∈ rs, r.nil = false → σ.length ≤ r.id) ∧ TabG e2 e1 (σ ++ s) id ver rs T) → K (.tup [x, .int .i64 r]) (σ ++ s)) : ACall P f args σ K := by
  refine ACall.frame h ha.up fun v s ⟨x, hv, hT, _⟩ => ?_
  subst hv
  have h1 := hT.shift σ
  have := hk (x.ren (Kv.sh σ.length)) (s.map (AObj.ren (Kv.sh σ.length))) (fun τ => h1.append τ) (by
    cases hT with
    | nil => exact .inl (by simp only [ren_nils])
    | tab id ver rs t h =>
      refine .inr ⟨id + σ.length, ver, rs.map (Rw.sh σ.length), by simp only [ren_ref, sh_def], by omega, fun r hr hn => ?_, h.shift σ⟩
      obtain ⟨q, _, rfl⟩ := List.mem_map.1 hr
      simp [Rw.sh])
  simpa only [ren_tup, ren_int, List.map_cons, List.map_nil] using this
theorem NewTN.lend {P : Program} {f : FuncId} {args args' : List PV} {T : List (List Int)} {r : Int} (h : NewTN P f args' e2 e1 T r) {σ : Heap} {K : PV → Heap → Prop} (ha : ImmL σ args args')
    (hk : ∀ (x : PV) (s : Heap), (∀ τ, TabN e2 e1 (σ ++ s ++ τ) x T) → (x = .nils ∨ ∃ id ver rs, x = .ref id ver 0 T.length ∧ σ.length ≤ id ∧ (∀ r ∈ rs, r.nil = false → σ.length ≤ r.id) ∧ TabG e2 e1 (σ ++ s) id ver rs T) → K (.tup [x, .int .i64 r]) (σ ++ s)) : ACall P f args σ K := by
  refine ACall.lend h ha fun v s ⟨x, hv, hT, hf⟩ => ?_
  subst hv
  refine ⟨⟨free_tup fun c hc => ?_, hf⟩, ?_⟩
  · simp only [List.mem_cons, List.not_mem_nil, or_false] at hc
    rcases hc with rfl | rfl
    · exact hT.up
    · exact (Plain.int _ _).fr
  · have h1 := hT.shift σ
    have := hk (x.ren (Kv.sh σ.length)) (s.map (AObj.ren (Kv.sh σ.length))) (fun τ => h1.append τ) (by
      cases hT with
      | nil => exact .inl (by simp only [ren_nils])
      | tab id ver rs t h =>
        refine .inr ⟨id + σ.length, ver, rs.map (Rw.sh σ.length), by simp only [ren_ref, sh_def], by omega, fun r hr hn => ?_, h.shift σ⟩
        obtain ⟨q, _, rfl⟩ := List.mem_map.1 hr
        simp [Rw.sh])
    simpa only [ren_tup, ren_int, List.map_cons, List.map_nil] using this
end Go.Kv
