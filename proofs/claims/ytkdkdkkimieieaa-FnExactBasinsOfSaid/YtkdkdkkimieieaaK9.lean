/- One operation of the machine, whatever it is, under the abstract one. -/
import Derived.Test.YtkdkdkkimieieaaK8
namespace Go.Kv
set_option linter.unusedVariables false
set_option linter.unusedSimpArgs false

variable {P : Program} {φ : Frz} {ι : List KLoc} {σ : Heap} {w : World} {N : Nat} {env : Env} {a : Act}

theorem ints_rel {φ : Frz} {ι : List KLoc} {xs : List Int} {vs : List Value} (h : RelL φ ι (ints xs) vs) : vs = xs.map (Value.int .i64) := by
  apply List.ext_getElem?
  intro i
  cases hx : xs[i]? with
  | none =>
    have : vs[i]? = none := by
      rw [List.getElem?_eq_none_iff] at hx ⊢
      rw [← h.1]; simpa [ints] using hx
    simp [this, hx]
  | some x =>
    obtain ⟨v, hv, hr⟩ := h.get (i := i) (c := .int .i64 x) (by simp [ints, hx])
    rw [hv, hr.int_inv]; simp [hx]
theorem wp_val {o : Oper} {v : Value} {w' : World} {next : Act → World → Prop} {Q : Exit → Act → World → Prop} (hr : (execOp a.eval o).run P w = .ok (.value v) w') (hn : next (a.put o.dst v) w') : o.wp P a w next Q := by
  unfold Oper.wp; rw [hr]; exact hn
theorem wp_skp {o : Oper} {w' : World} {next : Act → World → Prop} {Q : Exit → Act → World → Prop} (hr : (execOp a.eval o).run P w = .ok .skip w') (hn : next (a.put o.dst Go.undef) w') : o.wp P a w next Q := by
  unfold Oper.wp; rw [hr]; exact hn

def Nx (P : Program) (N : Nat) (φ : Frz) (ι : List KLoc) (σ : Heap) (w : World) (a : Act) (d : Option Tmp) (K : PV → Heap → Prop) (next : Act → World → Prop) : Prop :=
  ∀ v' v φ' ι' σ' w', Rel φ' ι' v v' → Tr σ.length φ ι w φ' ι' w' → HOK φ' ι' σ' w' → K v σ' → next (a.put d v') w'

theorem Nx.pure {d : Option Tmp} {K : PV → Heap → Prop} {next : Act → World → Prop} (h : Nx P N φ ι σ w a d K next) (ho : HOK φ ι σ w) {v' : Value} {v : PV} (hr : Rel φ ι v v') (hk : K v σ) : next (a.put d v') w :=
  h v' v φ ι σ w hr (.refl _ _ _ _) ho hk

theorem new_box (ho : HOK φ ι σ w) {e : TypeId} {cs : List PV} {C : Array Value} (hR : RelL φ ι cs C.toList) (hok : cs.all PV.ok = true) :
    HOK φ (ι ++ [.box w.heap.size]) (σ ++ [.box cs]) (w.alloc (.cells C e)) ∧ Tr σ.length φ ι w φ (ι ++ [.box w.heap.size]) (w.alloc (.cells C e)) ∧ Rel φ (ι ++ [.box w.heap.size]) (.ptr σ.length 0) (.pointer (some ⟨w.heap.size, 0, none⟩)) := by
  have hk : ∀ b, b < w.heap.size → (w.alloc (.cells C e)).heap[b]? = w.heap[b]? := fun b hb => alloc_old w _ hb
  have hs : w.heap.size ≤ (w.alloc (.cells C e)).heap.size := by rw [alloc_size]; omega
  have hb : ∀ b, (KLoc.box w.heap.size).block = some b → w.heap.size ≤ b ∧ b < (w.alloc (.cells C e)).heap.size := fun b hb => by
    simp [KLoc.block] at hb; subst hb; rw [alloc_size]; omega
  refine ⟨ho.push hk hs hb ⟨C, e, alloc_new w _, hR, hok⟩, Tr.push _ hk hs rfl rfl rfl (fun b h => (hb b h).1), ?_⟩
  exact .ptr _ 0 _ (by rw [← ho.len, List.getElem?_append_right (Nat.le_refl _)]; simp)
theorem new_frz (ho : HOK φ ι σ w) {e : TypeId} {cs : List PV} {C : Array Value} (hR : RelL φ ι cs C.toList) (hok : cs.all PV.ok = true) :
    HOK (addFrz φ w.heap.size C) ι σ (w.alloc (.cells C e)) ∧ Tr σ.length φ ι w (addFrz φ w.heap.size C) ι (w.alloc (.cells C e)) ∧ Rel (addFrz φ w.heap.size C) ι (.fptr cs 0) (.pointer (some ⟨w.heap.size, 0, none⟩)) := by
  have hk : ∀ b, b < w.heap.size → (w.alloc (.cells C e)).heap[b]? = w.heap[b]? := fun b hb => alloc_old w _ hb
  have hs : w.heap.size ≤ (w.alloc (.cells C e)).heap.size := by rw [alloc_size]; omega
  obtain ⟨h1, h2⟩ := ho.frz hk hs (Nat.le_refl _) (alloc_new w (.cells C e))
  refine ⟨h1, Tr.frz _ h2 hk hs rfl rfl rfl, ?_⟩
  refine .fptr cs 0 w.heap.size 0 C (by simp [addFrz]) hok (fun j => C.toList.getD j Go.undef) (fun j c hj => ?_) (fun j c hj => ?_)
  · obtain ⟨u, hu, _⟩ := hR.get hj
    have hu' : C[j]? = some u := by simpa using hu
    simp [hu']
  · obtain ⟨u, hu, hr⟩ := hR.get hj
    have hu' : C[j]? = some u := by simpa using hu
    simp [hu']
    exact hr.mono h2.1 (.refl _)

/-- A run of an own array is written. -/
theorem write_sound (h : HOK φ ι σ w) {id ver es : Nat} {e : TypeId} {xs : List PV} (ho : σ[id]? = some (.arr ver e es xs)) {off len : Nat} (hfit : off + len ≤ xs.length) {v : Value} (hr : Rel φ ι (.ref id ver off len) v)
    {ys : List PV} (hyl : ys.length = len) (hyok : okL es ys) {us : List Value} (hu : RelL φ ι (flat ys) us) (hlen : 0 < len) :
    ∃ ad n, v = .slice (some ad) len n ∧ ∃ w', (storeCells ad us).run P w = .ok () w' ∧ HOK φ ι (σ.set id (.arr ver e es (xs.take off ++ ys ++ xs.drop (off + len)))) w' ∧ Tr σ.length φ ι w φ ι w' := by
  obtain ⟨u, hid, hsz, zs, hown, hR, hok, hss⟩ := arr_open h ho
  cases hr with
  | ref _ _ _ _ _ k e' s' u' h' ho' hk hv =>
    rw [hid] at h'; cases h'
    rcases hv rfl with ⟨b, n, cap, o, rfl, hcap, rfl, hoo, _⟩ | ⟨rfl, rfl, rfl, _⟩
    · rcases hown.2 with ⟨hbad, _⟩ | ⟨g, cap', cur, hveq, hb0, hg, hnc, hcm, hcs, htake⟩
      · cases hbad
      · cases hveq
        have hoo := hoo (by omega)
        subst hoo
        have hfl : (flat ys).length = len * es := by rw [flat_length (okL_len hyok), hyl]
        have hul : us.length = len * es := by rw [← hu.1, hfl]
        have hzl : zs.length = xs.length * es := hown.1
        have hbd : off * es + len * es ≤ xs.length * es := by rw [← Nat.add_mul]; exact Nat.mul_le_mul_right _ hfit
        have hcap2 : xs.length * es ≤ cur.size := by rw [hcs]; exact Nat.mul_le_mul_right _ hnc
        have hone := oneCells hu (okL_flat hyok)
        have hst := run_storeCells_at P b (off * es) e us 0 cur w hg (by rw [hul]; omega) hone
        simp only [Nat.add_zero] at hst
        refine ⟨_, _, rfl, _, hst, ?_⟩
        have hxt : ∀ x ∈ xs.take off, x.cs.length = es := fun x hx => hss x (List.mem_of_mem_take hx)
        have hxd : ∀ x ∈ xs.drop (off + len), x.cs.length = es := fun x hx => hss x (List.mem_of_mem_drop hx)
        have hnewlen : (xs.take off ++ ys ++ xs.drop (off + len)).length = xs.length := by simp [hyl]; omega
        have hflat : flat (xs.take off ++ ys ++ xs.drop (off + len)) = (flat xs).take (off * es) ++ flat ys ++ (flat xs).drop (off * es + len * es) := by
          rw [flat_append, flat_append, flat_take xs hss, flat_drop xs hss, Nat.add_mul]
        have hnew : RelL φ ι (flat (xs.take off ++ ys ++ xs.drop (off + len))) (zs.take (off * es) ++ us ++ zs.drop (off * es + len * es)) := by
          rw [hflat]
          exact ((hR.take _).append hu).append (hR.drop _)
        have hcl : cur.toList.length = cur.size := by simp
        have hlist : (cur.toList.take (off * es) ++ us ++ cur.toList.drop (off * es + us.length)).take (xs.length * es) = zs.take (off * es) ++ us ++ zs.drop (off * es + len * es) := by
          have := splice cur.toList us (off * es) 0 (len * es) (len * es) (xs.length * es) hul (by omega) hbd (by rw [hcl]; exact hcap2)
          rw [htake] at this
          simp only [Nat.add_zero, Nat.zero_add, List.take_zero, List.nil_append] at this
          rw [hul, this]
          congr 2
          rw [List.drop_eq_nil_of_le (by simp; omega), List.append_nil]
        have hsame : ι.set id (KLoc.arr ver e es (.slice (some ⟨b, 0, none⟩) xs.length cap)) = ι := by
          apply List.ext_getElem?; intro j
          by_cases e1 : id = j
          · subst e1; rw [List.getElem?_set_self (List.getElem?_eq_some_iff.1 hid).1, hid]
          · rw [List.getElem?_set_ne e1]
        have hOK : ObjOK φ (ι.set id (.arr ver e es (.slice (some ⟨b, 0, none⟩) xs.length cap))) (w.setRow b (cur.toList.take (off * es) ++ us ++ cur.toList.drop (off * es + us.length)).toArray) (.arr ver e es (xs.take off ++ ys ++ xs.drop (off + len))) (.arr ver e es (.slice (some ⟨b, 0, none⟩) xs.length cap)) := by
          rw [hsame]
          refine ⟨rfl, rfl, rfl, hsz, _, ⟨by rw [hnewlen, ← hnew.1, flat_length (esz := es) (fun x hx => by
              simp only [List.mem_append] at hx
              rcases hx with (hx | hx) | hx
              · exact hxt x hx
              · exact okL_len hyok x hx
              · exact hxd x hx), hnewlen], .inr ⟨b, cap, _, by rw [hnewlen], Nat.zero_le _, setRow_heap w b cur _ e (0, 0) hg, by rw [hnewlen]; exact hnc, hcm, ?_, ?_⟩⟩, hnew, ?_, ?_⟩
          · simp only [List.size_toArray, List.length_append, List.length_take, List.length_drop, hul, hcl]
            omega
          · rw [hnewlen]; simpa using hlist
          · rw [hflat]
            rw [List.all_eq_true] at hok ⊢
            have hyo := List.all_eq_true.1 (okL_flat hyok)
            intro z hz
            simp only [List.mem_append] at hz
            rcases hz with (h6 | h6) | h6
            · exact hok z (List.mem_of_mem_take h6)
            · exact hyo z h6
            · exact hok z (List.mem_of_mem_drop h6)
          · intro x hx
            simp only [List.mem_append] at hx
            rcases hx with (hx | hx) | hx
            · exact hxt x hx
            · exact okL_len hyok x hx
            · exact hxd x hx
        have hup := h.upd (w' := w.setRow b _) (o := .arr ver e es (xs.take off ++ ys ++ xs.drop (off + len))) hid (KLoc.le_refl _) (by simp) (fun k hk hk' => setRow_other w b k _ (fun e1 => hk' (by simp [KLoc.block, Value.ownBlock, e1])))
          (fun k hk => .inl hk) (fun k hk => by simp [KLoc.block, Value.ownBlock] at hk; subst hk; simpa using heap_lt hg) hOK
        have htr := Tr.upd (φ := φ) σ.length hid hup.2 (w' := w.setRow b (cur.toList.take (off * es) ++ us ++ cur.toList.drop (off * es + us.length)).toArray) (by simp) (fun k hk hk' => setRow_other w b k _ (fun e1 => hk' (by simp [KLoc.block, Value.ownBlock, e1]))) (fun k hk => .inl hk) rfl rfl rfl
        rw [hsame] at htr hup
        exact ⟨hup.1, htr⟩
    · omega

theorem cvs_ok : ∀ {vs : List Value} {zs : List PV}, cvs vs = some zs → zs.all PV.ok = true
  | [], zs, h => by simp [cvs] at h; subst h; rfl
  | v :: vs, zs, hh => by
    simp only [cvs, List.mapM_cons, Option.bind_eq_bind, Option.pure_def, Option.bind_eq_some_iff, Option.some.injEq] at hh
    obtain ⟨c, hc, cs, hcs, rfl⟩ := hh
    have ih := cvs_ok (vs := vs) hcs
    rw [List.all_cons, ih, Bool.and_true]
    unfold cv at hc
    split at hc <;> simp at hc <;> subst hc <;> rfl
theorem zero_rel {z : Value} {zs : List PV} {zp : PV} (hzs : cvs z.cells.toList = some zs) (hzp : zp.cs = zs) (hpos : zs.length ≠ 0) (n : Nat) :
    RelL φ ι (flat (List.replicate n zp)) (Builtin.zeroCells z.cells n).toList := by
  have hzR := cvs_rel φ ι hzs
  have hzl : z.cells.size = zs.length := by rw [hzR.1]; simp
  have hlen : ∀ y ∈ List.replicate n zp, y.cs.length = zs.length := fun y hy => by rw [List.eq_of_mem_replicate hy, hzp]
  refine ⟨by rw [flat_length hlen, List.length_replicate, Array.length_toList (xs := Builtin.zeroCells z.cells n), size_zeroCells, hzl], fun k c u hc hu => ?_⟩
  have hkl := (List.getElem?_eq_some_iff.1 hc).1
  rw [flat_length hlen, List.length_replicate] at hkl
  have hu' : z.cells[k % z.cells.size]! = u := by
    have : k < n * z.cells.size := by rw [hzl]; exact hkl
    simp [Builtin.zeroCells, this] at hu
    exact hu
  rw [flat_idx (Nat.pos_of_ne_zero hpos) _ hlen] at hc
  have hdl : k / zs.length < n := (Nat.div_lt_iff_lt_mul (Nat.pos_of_ne_zero hpos)).2 hkl
  rw [List.getElem?_replicate, if_pos hdl] at hc
  simp only [Option.bind_some, hzp] at hc
  refine hzR.2 (k % zs.length) c u hc ?_
  have hml : k % zs.length < z.cells.size := by rw [hzl]; exact Nat.mod_lt _ (Nat.pos_of_ne_zero hpos)
  rw [← hu', hzl]
  rw [getElem!_pos z.cells (k % zs.length) hml]
  simp [hml]
theorem tup_nil_rel (φ : Frz) (ι : List KLoc) : Rel φ ι (.tup []) (.tuple #[]) := .tup [] [] rfl (by simp)
theorem clr_sound {t e : TypeId} {i : TypeInfo} {z : Value} {zs : List PV} {zp : PV} {ty : TypeId} {x : PV} {v : Value} {K : Heap → Prop} (h1 : HOK φ ι σ w) (hd : P.underlying t = some (.slice e)) (hi : P.info? e = some i) (hz : i.zero = some z)
    (hzs : cvs z.cells.toList = some zs) (hl : i.size = zs.length) (hpos : i.size ≠ 0) (hzp : zp.cs = zs) (hr : Rel φ ι x v) (ha : aClr i.size zp x σ K) :
    ∃ w' φ' ι' σ', (Builtin.clear_ #[t] ty #[v]).run P w = .ok (.tuple #[]) w' ∧ Tr σ.length φ ι w φ' ι' w' ∧ HOK φ' ι' σ' w' ∧ K σ' := by
  unfold aClr at ha
  split at ha
  · cases hr
    exact ⟨w, φ, ι, σ, by simp [Builtin.clear_, run_underlying hd], .refl _ _ _ _, h1, ha⟩
  · rename_i id ver off len
    split at ha
    · rename_i vr e' es xs ho
      obtain ⟨⟨rfl, rfl, hfit⟩, hK⟩ := ha
      rcases Nat.eq_zero_or_pos len with h0 | h0
      · subst h0
        have hsame : σ.set id (.arr vr e' i.size (xs.take off ++ List.replicate 0 zp ++ xs.drop (off + 0))) = σ := by
          apply List.ext_getElem?; intro j
          by_cases e1 : id = j
          · subst e1; rw [List.getElem?_set_self (List.getElem?_eq_some_iff.1 ho).1, ho]; simp
          · rw [List.getElem?_set_ne e1]
        rw [hsame] at hK
        refine ⟨w, φ, ι, σ, ?_, .refl _ _ _ _, h1, hK⟩
        obtain ⟨u, hid, hsz, zs', hown, hR, hok, hss⟩ := arr_open h1 ho
        cases hr with
        | ref _ _ _ _ _ k e2 s2 u2 h' ho' hk hv =>
          rw [hid] at h'; cases h'
          rcases hv rfl with ⟨b, n, cap, o, rfl, hcap, rfl, _, _⟩ | ⟨rfl, _, _, rfl⟩
          · simp [Builtin.clear_, run_underlying hd]
          · simp [Builtin.clear_, run_underlying hd]
      · have hyok : okL i.size (List.replicate len zp) := fun y hy => by rw [List.eq_of_mem_replicate hy, hzp]; exact ⟨hl.symm, cvs_ok hzs⟩
        obtain ⟨ad, n, rfl, w', hw, hh, htr⟩ := write_sound (P := P) h1 ho hfit hr (List.length_replicate ..) hyok (zero_rel (φ := φ) (ι := ι) hzs hzp (by omega) len) h0
        refine ⟨w', φ, ι, _, ?_, htr, hh, hK⟩
        obtain ⟨m, rfl⟩ : ∃ m, len = m + 1 := ⟨len - 1, by omega⟩
        simp [Builtin.clear_, run_underlying hd, zeroValue, typeInfo, hi, hz, hw]
    · exact ha.elim
  · exact ha.elim

theorem call_sound {o : Oper} {f : Operand} {as : Array Operand} {ts : Array TypeId} (hop : o.op = .call { callee := .value f, args := as, argTypes := ts }) {x : KX} {ys : List KX} (hf : trX f = some x) (has : trXs as = some ys)
    {K : PV → Heap → Prop} (ha : aCall P (kx env x) (ys.map (kx env)) σ K) (h1 : HOK φ ι σ w) (h2 : EOK N φ ι env a) {next : Act → World → Prop} {Q : Exit → Act → World → Prop} (hn : Nx P N φ ι σ w a o.dst K next) : o.wp P a w next Q := by
  unfold aCall at ha
  split at ha
  · rename_i fid first caps hk
    have hr := trX_rel h2 hf
    rw [hk] at hr
    obtain ⟨u, v, hev, hu, hv⟩ := hr.fn_inv
    have hargs := trXs_rel (φ := φ) (ι := ι) h2 has
    obtain ⟨⟨fn, hfn, hbody, hname⟩, hcall⟩ := ha
    have hall := hcall φ ι w (u ++ as.toList.map a.eval ++ v) ((hu.append hargs).append hv) h1
    have hrun : (execOp a.eval o).run P w = .ok (.enter fid (u ++ as.toList.map a.eval ++ v).toArray) w := by
      unfold execOp
      have hb : fn.body.isNone = false := by cases hfb : fn.body <;> simp_all
      have harr : (u.toArray ++ Array.map a.eval as) ++ v.toArray = (u ++ as.toList.map a.eval ++ v).toArray := by
        apply Array.ext'; simp
      have hname' : ¬ fn.name = "runtime.NumGoroutine" := by simpa using hname
      simp only [hop, resolve, hev, Deferred.ofValue, Sem.run_bind, Sem.run_pure, Result.andThen_ok, invoke, callFunc, run_program, hfn, hname, hb, Bool.false_eq_true, if_false, harr]
    unfold Oper.wp
    rw [hrun]
    show Calls P fid _ w _
    refine hall.mono fun e w' ⟨c, v', φ', ι', σ', he, g1, g2, g3, g4⟩ => ?_
    subst he
    exact hn v' c φ' ι' σ' w' g1 g2 g3 g4
  · exact ha.elim

def quietP : KP → Bool
  | .alloc _ | .box .. | .store .. | .call .. | .pcall .. | .app .. | .mks .. | .bsl .. | .build .. | .clr .. => false
  | _ => true
def KQ (b : Bool) (x : Option KP) : Prop := ∀ p, x = some p → quietP p = b
theorem KQ.none (b : Bool) : KQ b none := fun _ h => by cases h
theorem KQ.some {b : Bool} {p : KP} (h : quietP p = b) : KQ b (some p) := fun _ e => by cases e; exact h
theorem KQ.bind {α : Type} {b : Bool} {x : Option α} {f : α → Option KP} (h : ∀ a, KQ b (f a)) : KQ b (x >>= f) := fun p e => by
  cases x with
  | none => cases e
  | some a => exact h a p e
theorem KQ.map {α : Type} {b : Bool} {x : Option α} {f : α → KP} (h : ∀ a, quietP (f a) = b) : KQ b (x.map f) := fun p e => by
  cases x with
  | none => cases e
  | some a => cases e; exact h a
def CalmTo (P : Program) (a : Act) (w : World) (φ : Frz) (ι : List KLoc) (σ : Heap) (o : Oper) (K : PV → Heap → Prop) : Prop := ∃ v c, (execOp a.eval o).calm P w = some (.value v) ∧ Rel φ ι c v ∧ K c σ

set_option maxHeartbeats 1000000 in
/-- An operation that only reads. -/
theorem op_calm {o : Oper} {fz : List Nat} {p : KP} (h : trOp P fz o.dst o.op = some p) (hq : quietP p = true) {K : PV → Heap → Prop} (ha : aOp P p env σ K) (h1 : HOK φ ι σ w) (h2 : EOK N φ ι env a) : CalmTo P a w φ ι σ o K := by
  unfold trOp at h
  split at h
  · -- move
    rename_i x hop
    simp only [Option.map_eq_some_iff] at h; obtain ⟨y, hy, rfl⟩ := h
    exact ⟨_, _, (by simp [execOp, hop]), (trX_rel h2 hy), ha⟩
  · rename_i x hop
    simp only [Option.map_eq_some_iff] at h; obtain ⟨y, hy, rfl⟩ := h
    exact ⟨_, _, (by simp [execOp, hop]), (trX_rel h2 hy), ha⟩
  · -- pick
    rename_i c x y hop
    simp only [Option.bind_eq_bind, Option.bind_eq_some_iff, Option.some.injEq] at h
    obtain ⟨c', hc, x', hx, y', hy, rfl⟩ := h
    simp only [aOp] at ha
    split at ha
    · rename_i t ht
      have hcr := trX_rel h2 hc
      rw [ht] at hcr
      have he := hcr.bool_inv
      cases t with
      | true => exact ⟨_, _, (by simp [execOp, hop, he, asBool]), (trX_rel h2 hx), (ha.1 rfl)⟩
      | false => exact ⟨_, _, (by simp [execOp, hop, he, asBool]), (trX_rel h2 hy), (ha.2 rfl)⟩
    · exact ha.elim
  · exact absurd ((by repeat' (first | exact KQ.none _ | exact KQ.some rfl | exact KQ.map fun _ => rfl | refine KQ.bind fun _ => ?_ | split) : KQ false _) _ h) (by simp [hq])
  · exact absurd ((by repeat' (first | exact KQ.none _ | exact KQ.some rfl | exact KQ.map fun _ => rfl | refine KQ.bind fun _ => ?_ | split) : KQ false _) _ h) (by simp [hq])
  · -- load
    rename_i t x hop
    simp only [Option.bind_eq_bind, Option.bind_eq_some_iff, Option.some.injEq] at h
    obtain ⟨g, hg, n, hnn, y, hy, rfl⟩ := h
    obtain ⟨u, c, g1, g2, g3⟩ := load_sound h1 hg hnn (trX_rel h2 hy) ha
    exact ⟨_, _, (by simp [execOp, hop, g1]), g2, g3⟩
  · exact absurd ((by repeat' (first | exact KQ.none _ | exact KQ.some rfl | exact KQ.map fun _ => rfl | refine KQ.bind fun _ => ?_ | split) : KQ false _) _ h) (by simp [hq])
  · -- nilCheck
    rename_i x hop
    simp only [Option.bind_eq_bind, Option.bind_eq_some_iff, Option.some.injEq] at h
    obtain ⟨y, hy, rfl⟩ := h
    have hr := trX_rel h2 hy
    simp only [aOp] at ha
    split at ha
    · rename_i id off e
      rw [e] at ha hr
      obtain ⟨b, hb, hv⟩ := hr.ptr_inv
      exact ⟨.pointer (some ⟨b, off, none⟩), _, (by simp [execOp, hop, hv]), (hv ▸ hr), ha⟩
    · rename_i cs off e
      rw [e] at ha hr
      obtain ⟨b, o', hv, _⟩ := fptr_cells h1 hr
      exact ⟨.pointer (some ⟨b, o' + off, none⟩), _, (by simp [execOp, hop, hv]), (hv ▸ hr), ha⟩
    · rename_i f b c e
      rw [e] at ha hr
      obtain ⟨u, v, hv, _⟩ := hr.fn_inv
      exact ⟨.func (.func f) u.toArray v.toArray, _, (by simp [execOp, hop, hv]), (hv ▸ hr), ha⟩
    · exact ha.elim
  · -- binOp
    rename_i op t x y ty hop
    simp only [Option.bind_eq_bind, Option.bind_eq_some_iff] at h
    obtain ⟨d, hd, h⟩ := h
    have plain : ∀ x' y', trX x = some x' → trX y = some y' → aOp P (.bin op x' y') env σ K → CalmTo P a w φ ι σ o K := fun x' y' hx hy ha => by
      obtain ⟨c, r, g1, g2, g3⟩ := aBin_sound (P := P) (w := w) (op := op) (t := t) (ox := x) (oy := y) (trX_rel h2 hx) (trX_rel h2 hy) ha
      exact ⟨_, _, (by simp only [execOp, hop, calm_bind] at g1 ⊢; rw [g1]; rfl), g2, g3⟩
    have bools : ∀ ng x' y', P.underlying t = some .bool → (op = if ng = true then .neq else .eql) → trX x = some x' → trX y = some y' → aOp P (.beq ng x' y') env σ K → CalmTo P a w φ ι σ o K := fun ng x' y' ht hoo hx hy ha => by
      simp only [aOp] at ha
      split at ha
      · rename_i p q e1 e2
        have r1 := trX_rel h2 hx
        have r2 := trX_rel h2 hy
        rw [e1] at r1; rw [e2] at r2
        have g1 := beq_sound (P := P) (w := w) (op := op) (t := t) (ox := x) (oy := y) (a := p) (b := q) ng ht hoo
        refine ⟨_, _, ?_, (.bool _), ha⟩
        simp only [execOp, hop, r1.bool_inv, r2.bool_inv, calm_bind] at g1 ⊢
        rw [g1]; rfl
      · exact ha.elim
    split at h
    · simp only [Option.bind_eq_some_iff, Option.some.injEq] at h
      obtain ⟨x', hx, y', hy, rfl⟩ := h
      exact plain x' y' hx hy ha
    · simp only [Option.bind_eq_some_iff, Option.some.injEq] at h
      obtain ⟨x', hx, y', hy, rfl⟩ := h
      exact plain x' y' hx hy ha
    · split at h
      · simp only [Option.bind_eq_some_iff, Option.some.injEq] at h
        obtain ⟨x', hx, y', hy, rfl⟩ := h
        exact bools false x' y' hd rfl hx hy ha
      · simp only [Option.bind_eq_some_iff, Option.some.injEq] at h
        obtain ⟨x', hx, y', hy, rfl⟩ := h
        exact bools true x' y' hd rfl hx hy ha
      · cases h
    · -- struct
      rename_i fs
      simp only [Option.bind_eq_bind, Option.bind_eq_some_iff] at h
      obtain ⟨n, hc, h⟩ := h
      have hag : isAggT P t = some true := by simp [isAggT, hd]
      split at h
      · cases h
      · rename_i hgt
        have aggs : ∀ ng x' y', (op = if ng = true then .neq else .eql) → trX x = some x' → trX y = some y' → aOp P (.aeq ng n x' y') env σ K → CalmTo P a w φ ι σ o K := fun ng x' y' hoo hx hy ha => by
          simp only [aOp] at ha
          split at ha
          · rename_i p q e1 e2
            obtain ⟨xs, ys, rfl, rfl, ⟨l1, l2⟩, ha⟩ := ha
            have r1 := trX_rel h2 hx
            have r2 := trX_rel h2 hy
            rw [e1] at r1; rw [e2] at r2
            obtain ⟨u, hu, hu2, _⟩ := r1.agg_inv
            obtain ⟨v, hv, hv2, _⟩ := r2.agg_inv
            have g1 := aeq_calm (P := P) (w := w) ng hoo hc (by simpa using hgt) hag x y xs ys l1 l2
            refine ⟨_, _, ?_, (.bool _), ha⟩
            simp only [execOp, hop, hu, hv, ints_rel hu2, ints_rel hv2, calm_bind] at g1 ⊢
            rw [g1]; rfl
          · exact ha.elim
        split at h
        · simp only [Option.bind_eq_some_iff, Option.some.injEq] at h
          obtain ⟨x', hx, y', hy, rfl⟩ := h
          exact aggs false x' y' rfl hx hy ha
        · simp only [Option.bind_eq_some_iff, Option.some.injEq] at h
          obtain ⟨x', hx, y', hy, rfl⟩ := h
          exact aggs true x' y' rfl hx hy ha
        · cases h
    · cases h
  · -- not
    rename_i t x hop
    simp only [Option.bind_eq_bind, Option.bind_eq_some_iff, Option.some.injEq] at h
    obtain ⟨y, hy, rfl⟩ := h
    simp only [aOp] at ha
    split at ha
    · rename_i b e
      have hr := trX_rel h2 hy
      rw [e] at hr
      exact ⟨.bool (!b), _, (by simp [execOp, hop, hr.bool_inv, Op.unary]), (.bool _), ha⟩
    · exact ha.elim
  · -- neg
    rename_i t x hop
    simp only [Option.bind_eq_bind, Option.bind_eq_some_iff, Option.some.injEq] at h
    obtain ⟨y, hy, rfl⟩ := h
    simp only [aOp] at ha
    split at ha
    · rename_i k n e
      have hr := trX_rel h2 hy
      rw [e] at hr
      exact ⟨.int k (k.wrap (0 - n)), _, (by simp [execOp, hop, hr.int_inv, Op.unary, Op.intArith]), (.int _ _), (aWrap_sound ha)⟩
    · exact ha.elim
  · -- convert
    rename_i s t x hop
    simp only [Option.bind_eq_bind, Option.bind_eq_some_iff] at h
    obtain ⟨ds, hds, d, hd, h⟩ := h
    split at h
    · simp only [Option.bind_eq_some_iff, Option.some.injEq] at h
      obtain ⟨y, hy, rfl⟩ := h
      obtain ⟨c, r, g1, g2, g3⟩ := aConv_sound (w := w) (K := fun v => K v σ) hds hd (trX_rel h2 hy) ha
      exact ⟨_, _, (by simp only [execOp, hop, calm_bind, g1, Option.bind_some, calm_pure]), g2, g3⟩
    · cases h
  · -- fieldAddr
    rename_i t x f hop
    simp only [Option.bind_eq_bind, Option.bind_eq_some_iff] at h
    obtain ⟨d, hd, h⟩ := h
    split at h
    · rename_i fs
      simp only [Option.bind_eq_some_iff] at h
      obtain ⟨fd, hfd, n, hnn, h⟩ := h
      split at h
      · cases h
      · rename_i hpos
        simp only [Option.bind_eq_some_iff, Option.some.injEq] at h
        obtain ⟨y, hy, rfl⟩ := h
        obtain ⟨c, r, g1, g2, g3⟩ := fieldA_sound (K := fun v => K v σ) h1 hd hfd hnn hpos (trX_rel h2 hy) ha
        exact ⟨_, _, (by simp [execOp, hop, g1]), g2, g3⟩
    · cases h
  · -- field
    rename_i t x f hop
    simp only [Option.bind_eq_bind, Option.bind_eq_some_iff] at h
    obtain ⟨d, hd, h⟩ := h
    split at h
    · rename_i fs
      simp only [Option.bind_eq_some_iff, Option.some.injEq] at h
      obtain ⟨fd, hfd, g, hg, n, hnn, y, hy, rfl⟩ := h
      simp only [aOp] at ha
      split at ha
      · rename_i cs e
        have hr := trX_rel h2 hy
        rw [e] at hr
        obtain ⟨vs, hv, hR, hok⟩ := hr.agg_inv
        obtain ⟨c, r, g1, g2, g3⟩ := part_sound (w := w) hg hnn hR hok ha
        refine ⟨_, _, ?_, g2, g3⟩
        simp [execOp, hop, hv, Instr.field, calm_underlying hd, hfd, asAgg, g1]
      · exact ha.elim
    · cases h
  · -- indexAddr
    rename_i t x i hop
    simp only [Option.bind_eq_bind, Option.bind_eq_some_iff] at h
    obtain ⟨d, hd, h⟩ := h
    split at h
    · simp only [Option.bind_eq_some_iff, Option.some.injEq] at h
      obtain ⟨esz, hsz, x', hx, i', hi, rfl⟩ := h
      simp only [aOp] at ha
      split at ha
      · rename_i n e
        obtain ⟨k, hk⟩ := intOf_inv (trX_rel h2 hi) e
        obtain ⟨⟨h3, h4⟩, h5⟩ := ha
        obtain ⟨c, r, g1, g2, g3⟩ := idxA_sound (k := k) h1 hd hsz (trX_rel h2 hx) h3 h4 h5
        exact ⟨_, _, (by simp [execOp, hop, hk, g1]), g2, g3⟩
      · exact ha.elim
    · simp only [Option.bind_eq_some_iff, Option.some.injEq] at h
      obtain ⟨esz, hsz, x', hx, i', hi, rfl⟩ := h
      simp only [aOp] at ha
      split at ha
      · rename_i n e
        obtain ⟨k, hk⟩ := intOf_inv (trX_rel h2 hi) e
        obtain ⟨c, r, g1, g2, g3⟩ := idxS_sound (k := k) h1 hd hsz (trX_rel h2 hx) ha
        exact ⟨_, _, (by simp [execOp, hop, hk, g1]), g2, g3⟩
      · exact ha.elim
    · cases h
  · -- index
    rename_i t x i hop
    simp only [Option.bind_eq_bind, Option.bind_eq_some_iff] at h
    obtain ⟨d, hd, h⟩ := h
    split at h
    · rename_i len e
      simp only [Option.bind_eq_some_iff, Option.some.injEq] at h
      obtain ⟨esz, hsz, g, hg, x', hx, i', hi, rfl⟩ := h
      simp only [aOp] at ha
      split at ha
      · rename_i n cs e1 e2
        obtain ⟨k, hk⟩ := intOf_inv (trX_rel h2 hi) e1
        obtain ⟨⟨h3, h4⟩, h5⟩ := ha
        have hr := trX_rel h2 hx
        rw [e2] at hr
        obtain ⟨vs, hv, hR, hok⟩ := hr.agg_inv
        obtain ⟨c, r, g1, g2, g3⟩ := part_sound (w := w) hg hsz hR hok h5
        refine ⟨_, _, ?_, g2, g3⟩
        simp [execOp, hop, hv, hk, Instr.index, asIntOf, calm_underlying hd, h3, h4, szT_calm hsz, g1]
      · exact ha.elim
    · simp only [Option.bind_eq_some_iff, Option.some.injEq] at h
      obtain ⟨x', hx, i', hi, rfl⟩ := h
      simp only [aOp] at ha
      split at ha
      · rename_i n s e1 e2
        obtain ⟨k, hk⟩ := intOf_inv (trX_rel h2 hi) e1
        obtain ⟨⟨h3, h4⟩, h5⟩ := ha
        have hr := trX_rel h2 hx
        rw [e2] at hr
        have hlt : n.toNat < s.length := by omega
        refine ⟨.int .u8 (s.getD n.toNat 0).toNat, _, ?_, (.int _ _), h5⟩
        have hget : (ByteArray.mk s.toArray)[n.toNat]? = some (s[n.toNat]'hlt) := by
          have hsz : n.toNat < (ByteArray.mk s.toArray).size := by show n.toNat < s.toArray.size; simpa using hlt
          rw [getElem?_pos (ByteArray.mk s.toArray) n.toNat hsz]; rfl
        simp [execOp, hop, hr.str_inv, hk, Instr.index, asIntOf, calm_underlying hd, h3, hget, List.getD_eq_getElem?_getD, List.getElem?_eq_getElem hlt]
      · exact ha.elim
    · cases h
  · -- extract
    rename_i x i hop
    simp only [Option.bind_eq_bind, Option.bind_eq_some_iff, Option.some.injEq] at h
    obtain ⟨y, hy, rfl⟩ := h
    simp only [aOp] at ha
    split at ha
    · rename_i vs e
      have hr := trX_rel h2 hy
      rw [e] at hr
      obtain ⟨us, hv, hR⟩ := hr.tup_inv
      split at ha
      · rename_i c hc
        obtain ⟨u, hu, hru⟩ := hR.get hc
        exact ⟨u, _, (by simp [execOp, hop, hv, Instr.extract, hu]), hru, ha⟩
      · exact ha.elim
    · exact ha.elim
  · -- makeFunc
    rename_i f x y hop
    simp only [Option.bind_eq_bind, Option.bind_eq_some_iff, Option.some.injEq] at h
    obtain ⟨x', hx, y', hy, rfl⟩ := h
    have r1 := trXs_rel (φ := φ) (ι := ι) h2 hx
    have r2 := trXs_rel (φ := φ) (ι := ι) h2 hy
    refine ⟨.func f (x.toList.map a.eval).toArray (y.toList.map a.eval).toArray, _, ?_, (.fn f _ _ _ _ r1.1 r2.1 r1.2 r2.2), ha⟩
    have e1 : x.map a.eval = (x.toList.map a.eval).toArray := by apply Array.ext'; simp
    have e2 : y.map a.eval = (y.toList.map a.eval).toArray := by apply Array.ext'; simp
    simp only [execOp, hop, Instr.makeFunc, e1, e2, calm_bind, calm_pure, Option.bind_some]
  · exact absurd ((by repeat' (first | exact KQ.none _ | exact KQ.some rfl | exact KQ.map fun _ => rfl | refine KQ.bind fun _ => ?_ | split) : KQ false _) _ h) (by simp [hq])
  · exact absurd ((by repeat' (first | exact KQ.none _ | exact KQ.some rfl | exact KQ.map fun _ => rfl | refine KQ.bind fun _ => ?_ | split) : KQ false _) _ h) (by simp [hq])
  · exact absurd ((by repeat' (first | exact KQ.none _ | exact KQ.some rfl | exact KQ.map fun _ => rfl | refine KQ.bind fun _ => ?_ | split) : KQ false _) _ h) (by simp [hq])
  · -- slice
    rename_i t x lo hi hop
    simp only [Option.bind_eq_bind, Option.bind_eq_some_iff] at h
    obtain ⟨d, hd, h⟩ := h
    split at h
    · rename_i e
      simp only [Option.bind_eq_some_iff, Option.some.injEq] at h
      obtain ⟨esz, hsz, x', hx, lo', hlo, hi', hhi, rfl⟩ := h
      simp only [aOp] at ha
      have hbd : ∀ {q : Option Operand} {q' : Option KX}, trO q = some q' → (∀ y, q' = some y → ∃ n, intOf? (kx env y) = some n) → match q', q.map a.eval with | none, none => True | some y, some u => ∃ k n, kx env y = .int k n ∧ u = .int k n | _, _ => False := by
        intro q q' hq hint
        cases q with
        | none => simp [trO] at hq; subst hq; trivial
        | some q0 =>
          simp only [trO, Option.map_eq_some_iff] at hq
          obtain ⟨y, hy, rfl⟩ := hq
          obtain ⟨n, hn'⟩ := hint y rfl
          have hr := trX_rel (φ := φ) (ι := ι) h2 hy
          cases hkv : kx env y <;> rw [hkv] at hn' hr <;> simp [intOf?] at hn'
          exact ⟨_, _, hkv, hr.int_inv⟩
      obtain ⟨⟨hi1, hi2⟩, ha⟩ := ha
      obtain ⟨c, r, g1, g2, g3⟩ := sls_sound h1 hd hsz (trX_rel h2 hx) (hbd hlo hi1) (hbd hhi hi2) ha
      exact ⟨_, _, (by simp [execOp, hop, g1]), g2, g3⟩
    · cases h
  · -- call
    rename_i c hop
    unfold trCall at h
    split at h
    · rename_i f hcal
      simp only [Option.bind_eq_bind, Option.bind_eq_some_iff, Option.some.injEq] at h
      obtain ⟨x, hx, ys, hys, rfl⟩ := h
      obtain ⟨cal, as, ts⟩ := c
      simp only at hcal hys; subst hcal
      simp [quietP] at hq
    · rename_i b hcal
      obtain ⟨cal, as, ts⟩ := c
      simp only at hcal h; subst hcal
      have hbi : ∀ (bf : Array TypeId → TypeId → Array Value → Sem Value), (∀ tp cs xs, builtin b ts tp cs xs = (do pure (.value (← bf ts tp xs)) : Sem Next)) → ∀ {r : Value}, (bf ts o.type (as.map a.eval)).calm P w = some r → (execOp a.eval o).calm P w = some (.value r) := by
        intro bf hbf r hr
        simp only [execOp, hop, resolve, invoke, calm_bind, calm_pure, Option.bind_some, hbf, hr]
      unfold trBuiltin at h
      split at h
      · rename_i x t hx0 ht0
        have has : as = #[x] := by apply Array.ext'; simpa using hx0
        have hts : ts = #[t] := by apply Array.ext'; simpa using ht0
        subst has hts
        simp only [Option.bind_eq_bind, Option.bind_eq_some_iff] at h
        obtain ⟨d, hd, h⟩ := h
        split at h
        · simp only [Option.bind_eq_some_iff, Option.some.injEq] at h
          obtain ⟨y, hy, rfl⟩ := h
          have hr := trX_rel (φ := φ) (ι := ι) h2 hy
          have ha' : aLen (kx env y) σ fun v => K v σ := by
            simp only [aOp] at ha
            split at ha <;> first | exact ha | exact ha.elim | skip
            all_goals first | exact ha | simp_all
          obtain ⟨c, r, g1, g2, g3⟩ := len_sound (ty := o.type) h1 hd hr ha'
          exact ⟨_, _, (hbi Builtin.len_ (fun _ _ _ => rfl) (by simpa using g1)), g2, g3⟩
        · simp only [Option.bind_eq_some_iff, Option.some.injEq] at h
          obtain ⟨y, hy, rfl⟩ := h
          have hr := trX_rel (φ := φ) (ι := ι) h2 hy
          simp only [aOp] at ha
          cases hk : kx env y <;> rw [hk] at ha hr <;> simp only at ha
          rename_i s
          have g1 := len_str (P := P) (w := w) (ty := o.type) s hd
          exact ⟨_, _, (hbi Builtin.len_ (fun _ _ _ => rfl) (by simpa [hr.str_inv] using g1)), (.int _ _), ha⟩
        · cases h
      · rename_i s x t t' hx0 ht0
        have has : as = #[s, x] := by apply Array.ext'; simpa using hx0
        have hts : ts = #[t, t'] := by apply Array.ext'; simpa using ht0
        subst has hts
        simp only [Option.bind_eq_bind, Option.bind_eq_some_iff] at h
        obtain ⟨d, hd, h⟩ := h
        split at h
        · simp only [Option.bind_eq_some_iff] at h
          obtain ⟨i, hi, z, hz, h⟩ := h
          split at h
          · rename_i hc
            obtain ⟨rfl, c1, c2, c3⟩ := hc
            simp only [Option.bind_eq_some_iff, Option.some.injEq] at h
            obtain ⟨s', hs, x', hx, rfl⟩ := h
            simp [quietP] at hq
          · cases h
        · cases h
      · rename_i x r hx0
        have has : as = (x :: r).toArray := by apply Array.ext'; simpa using hx0
        subst has
        simp only [Option.bind_eq_bind, Option.bind_eq_some_iff, Option.some.injEq] at h
        obtain ⟨x', hx, r', hr, rfl⟩ := h
        obtain ⟨c, q, g1, g2, g3⟩ := mnmx_sound (P := P) (w := w) true (trX_rel (φ := φ) (ι := ι) h2 hx) (trXs_rel (φ := φ) (ι := ι) h2 hr) ha
        refine ⟨_, _, (hbi Builtin.max_ (fun _ _ _ => rfl) ?_), g2, g3⟩
        simpa [Builtin.max_] using g1
      · rename_i x r hx0
        have has : as = (x :: r).toArray := by apply Array.ext'; simpa using hx0
        subst has
        simp only [Option.bind_eq_bind, Option.bind_eq_some_iff, Option.some.injEq] at h
        obtain ⟨x', hx, r', hr, rfl⟩ := h
        obtain ⟨c, q, g1, g2, g3⟩ := mnmx_sound (P := P) (w := w) false (trX_rel (φ := φ) (ι := ι) h2 hx) (trXs_rel (φ := φ) (ι := ι) h2 hr) ha
        refine ⟨_, _, (hbi Builtin.min_ (fun _ _ _ => rfl) ?_), g2, g3⟩
        simpa [Builtin.min_] using g1
      · exact absurd ((by repeat' (first | exact KQ.none _ | exact KQ.some rfl | exact KQ.map fun _ => rfl | refine KQ.bind fun _ => ?_ | split) : KQ false _) _ h) (by simp [hq])
      · cases h
    · cases h
  · simp only [Option.some.injEq] at h; subst h; exact ha.elim

set_option maxHeartbeats 1000000 in
/-- An operation that makes or changes memory. -/
theorem op_loud {o : Oper} {fz : List Nat} {p : KP} (h : trOp P fz o.dst o.op = some p) (hq : quietP p = false) {K : PV → Heap → Prop} (ha : aOp P p env σ K) (h1 : HOK φ ι σ w) (h2 : EOK N φ ι env a) {next : Act → World → Prop} {Q : Exit → Act → World → Prop} (hn : Nx P N φ ι σ w a o.dst K next) : o.wp P a w next Q := by
  unfold trOp at h
  split at h
  · exact absurd ((by repeat' (first | exact KQ.none _ | exact KQ.some rfl | exact KQ.map fun _ => rfl | refine KQ.bind fun _ => ?_ | split) : KQ true _) _ h) (by simp [hq])
  · exact absurd ((by repeat' (first | exact KQ.none _ | exact KQ.some rfl | exact KQ.map fun _ => rfl | refine KQ.bind fun _ => ?_ | split) : KQ true _) _ h) (by simp [hq])
  · exact absurd ((by repeat' (first | exact KQ.none _ | exact KQ.some rfl | exact KQ.map fun _ => rfl | refine KQ.bind fun _ => ?_ | split) : KQ true _) _ h) (by simp [hq])
  · -- alloc
    rename_i t hop
    simp only [Option.bind_eq_bind, Option.bind_eq_some_iff, Option.some.injEq] at h
    obtain ⟨z, ⟨i, hi, hz⟩, zs, hzs, rfl⟩ := h
    obtain ⟨hok, hK⟩ := ha
    obtain ⟨g1, g2, g3⟩ := new_box (e := t) h1 (cvs_rel φ ι hzs) hok
    exact wp_val (w' := w.alloc (.cells z.cells t)) (by simp [execOp, hop, Instr.alloc, zeroValue, typeInfo, hi, hz, newVar, newRow]) (hn _ _ _ _ _ _ g3 g2 g1 hK)
  · -- box
    rename_i t x hop
    simp only [Option.bind_eq_bind, Option.bind_eq_some_iff, Option.some.injEq] at h
    obtain ⟨y, hy, rfl⟩ := h
    obtain ⟨hok, hK⟩ := ha
    have hr := (trX_rel h2 hy).cells hok
    have hrun : (execOp a.eval o).run P w = .ok (.value (.pointer (some ⟨w.heap.size, 0, none⟩))) (w.alloc (.cells (a.eval x).cells t)) := by simp [execOp, hop, Instr.box, newVar, newRow]
    split at hK
    · obtain ⟨g1, g2, g3⟩ := new_frz (e := t) h1 hr hok
      exact wp_val hrun (hn _ _ _ _ _ _ g3 g2 g1 hK)
    · obtain ⟨g1, g2, g3⟩ := new_box (e := t) h1 hr hok
      exact wp_val hrun (hn _ _ _ _ _ _ g3 g2 g1 hK)
  · exact absurd ((by repeat' (first | exact KQ.none _ | exact KQ.some rfl | exact KQ.map fun _ => rfl | refine KQ.bind fun _ => ?_ | split) : KQ true _) _ h) (by simp [hq])
  · -- store
    rename_i t x y hop
    simp only [Option.bind_eq_bind, Option.bind_eq_some_iff] at h
    obtain ⟨n, hnn, h⟩ := h
    split at h
    · cases h
    · rename_i hpos
      simp only [Option.bind_eq_some_iff, Option.some.injEq] at h
      obtain ⟨x', hx, y', hy, rfl⟩ := h
      obtain ⟨w', ι', σ', g1, g2, g3, g4⟩ := store_sound h1 hnn (Nat.pos_of_ne_zero hpos) (trX_rel h2 hx) (trX_rel h2 hy) ha
      exact wp_skp (by simp [execOp, hop, g1]) (hn _ _ _ _ _ _ (.undef _) g3 g2 g4)
  · exact absurd ((by repeat' (first | exact KQ.none _ | exact KQ.some rfl | exact KQ.map fun _ => rfl | refine KQ.bind fun _ => ?_ | split) : KQ true _) _ h) (by simp [hq])
  · exact absurd ((by repeat' (first | exact KQ.none _ | exact KQ.some rfl | exact KQ.map fun _ => rfl | refine KQ.bind fun _ => ?_ | split) : KQ true _) _ h) (by simp [hq])
  · exact absurd ((by repeat' (first | exact KQ.none _ | exact KQ.some rfl | exact KQ.map fun _ => rfl | refine KQ.bind fun _ => ?_ | split) : KQ true _) _ h) (by simp [hq])
  · exact absurd ((by repeat' (first | exact KQ.none _ | exact KQ.some rfl | exact KQ.map fun _ => rfl | refine KQ.bind fun _ => ?_ | split) : KQ true _) _ h) (by simp [hq])
  · exact absurd ((by repeat' (first | exact KQ.none _ | exact KQ.some rfl | exact KQ.map fun _ => rfl | refine KQ.bind fun _ => ?_ | split) : KQ true _) _ h) (by simp [hq])
  · exact absurd ((by repeat' (first | exact KQ.none _ | exact KQ.some rfl | exact KQ.map fun _ => rfl | refine KQ.bind fun _ => ?_ | split) : KQ true _) _ h) (by simp [hq])
  · exact absurd ((by repeat' (first | exact KQ.none _ | exact KQ.some rfl | exact KQ.map fun _ => rfl | refine KQ.bind fun _ => ?_ | split) : KQ true _) _ h) (by simp [hq])
  · exact absurd ((by repeat' (first | exact KQ.none _ | exact KQ.some rfl | exact KQ.map fun _ => rfl | refine KQ.bind fun _ => ?_ | split) : KQ true _) _ h) (by simp [hq])
  · exact absurd ((by repeat' (first | exact KQ.none _ | exact KQ.some rfl | exact KQ.map fun _ => rfl | refine KQ.bind fun _ => ?_ | split) : KQ true _) _ h) (by simp [hq])
  · exact absurd ((by repeat' (first | exact KQ.none _ | exact KQ.some rfl | exact KQ.map fun _ => rfl | refine KQ.bind fun _ => ?_ | split) : KQ true _) _ h) (by simp [hq])
  · exact absurd ((by repeat' (first | exact KQ.none _ | exact KQ.some rfl | exact KQ.map fun _ => rfl | refine KQ.bind fun _ => ?_ | split) : KQ true _) _ h) (by simp [hq])
  · -- makeSlice
    rename_i t l c hop
    simp only [Option.bind_eq_bind, Option.bind_eq_some_iff] at h
    obtain ⟨d, hd, h⟩ := h
    split at h
    · rename_i e
      simp only [Option.bind_eq_some_iff] at h
      obtain ⟨i, hi, z, hz, zs, hzs, h⟩ := h
      split at h
      · cases h
      · rename_i hcond
        have fin : ∀ (zp : PV) l' c', zp.cs = zs → trX l = some l' → trX c = some c' → aOp P (.mks e i.size zp l' c') env σ K → o.wp P a w next Q := fun zp l' c' hzp hl hc ha => by
          simp only [aOp] at ha
          split at ha
          · rename_i n m e1 e2
            obtain ⟨kl, hkl⟩ := intOf_inv (trX_rel h2 hl) e1
            obtain ⟨kc, hkc⟩ := intOf_inv (trX_rel h2 hc) e2
            obtain ⟨⟨h3, h4, h5⟩, hK⟩ := ha
            have hzok : zs.all PV.ok = true := by
              rw [List.all_eq_true]
              intro q hq
              obtain ⟨j, hj⟩ := List.getElem?_of_mem hq
              have : ∀ {vs : List Value} {zs : List PV}, cvs vs = some zs → ∀ (j : Nat) (q : PV), zs[j]? = some q → PV.ok q = true := by
                intro vs
                induction vs with
                | nil => intro zs hh j q hq; simp [cvs] at hh; subst hh; simp at hq
                | cons v vs ih =>
                  intro zs hh j q hq
                  simp only [cvs, List.mapM_cons, Option.bind_eq_bind, Option.pure_def, Option.bind_eq_some_iff, Option.some.injEq] at hh
                  obtain ⟨c, hc, cs, hcs, rfl⟩ := hh
                  cases j with
                  | zero =>
                    simp at hq; subst hq
                    unfold cv at hc
                    split at hc <;> simp at hc <;> subst hc <;> rfl
                  | succ j => exact ih hcs j q (by simpa using hq)
              exact this hzs j q hj
            obtain ⟨r, w', ι', g1, g2, g3, g4⟩ := mks_sound h1 hd hi hz hzs (by omega) (by omega) (by omega) hzp hzok h3 h4 h5 (kl := kl) (kc := kc)
            exact wp_val (by simp [execOp, hop, hkl, hkc, g1]) (hn _ _ _ _ _ _ g2 g3 g4 hK)
          · exact ha.elim
        simp only [Option.bind_eq_some_iff] at h
        obtain ⟨g, hg, h⟩ := h
        split at h
        · simp only [Option.bind_eq_some_iff, Option.some.injEq] at h
          obtain ⟨l', hl, c', hc, rfl⟩ := h
          exact fin _ l' c' rfl hl hc ha
        · split at h
          · rename_i z1
            simp only [Option.bind_eq_some_iff, Option.some.injEq] at h
            obtain ⟨l', hl, c', hc, rfl⟩ := h
            refine fin z1 l' c' ?_ hl hc ha
            simp only [cvs] at hzs
            obtain ⟨v0, hv0⟩ : ∃ v0, z.cells.toList = [v0] := by
              have := (cvs_rel φ ι hzs).1
              simp only [List.length_singleton] at this
              exact List.length_eq_one_iff.1 this.symm
            rw [hv0] at hzs
            simp at hzs
            unfold cv at hzs
            split at hzs <;> simp at hzs <;> subst hzs <;> rfl
          · cases h
    · cases h
  · -- buildSlice
    rename_i t n parts hop
    simp only [Option.bind_eq_bind, Option.bind_eq_some_iff] at h
    obtain ⟨d, hd, h⟩ := h
    split at h
    · rename_i e
      simp only [Option.bind_eq_some_iff] at h
      obtain ⟨i, hi, z, hz, ps, hps, h⟩ := h
      split at h
      · cases h
      · rename_i hsmall
        simp only [Option.some.injEq] at h
        subst h
        obtain ⟨hok, hK⟩ := ha
        obtain ⟨C, g1, g2, g3, g4⟩ := bsl_cells (w := w) h2 hd hi hz hps hsmall hok
        have hrun : (execOp a.eval o).run P w = .ok (.value (.slice (some ⟨w.heap.size, 0, none⟩) n n)) (w.alloc (.cells C e)) := by
          simp [execOp, hop, g1]
        have hn24 : n ≤ 16777216 := by
          have hp : 0 < i.size := by omega
          have : n * 1 ≤ n * i.size := Nat.mul_le_mul_left _ hp
          omega
        split at hK
        · -- frozen
          have hk : ∀ b, b < w.heap.size → (w.alloc (.cells C e)).heap[b]? = w.heap[b]? := fun b hb => alloc_old w _ hb
          have hs : w.heap.size ≤ (w.alloc (.cells C e)).heap.size := by rw [alloc_size]; omega
          obtain ⟨q1, q2⟩ := h1.frz hk hs (Nat.le_refl _) (alloc_new w (.cells C e))
          refine wp_val hrun (hn _ _ _ _ _ _ ?_ (Tr.frz _ q2 hk hs rfl rfl rfl) q1 hK)
          refine .list _ i.size w.heap.size 0 n n C (by simp [g2]) (Nat.le_refl _) (by simp [addFrz]) (fun j x hx => ?_) (fun j k => C.toList.getD (j * i.size + k) Go.undef) (fun j x k c hx hc => ?_) (fun j x k c hx hc => ?_)
          · exact hok x (List.mem_of_getElem? hx)
          all_goals
            have hxl := (hok x (List.mem_of_getElem? hx)).1
            have hfl : (flat (ps.map (kx env)))[j * i.size + k]? = some c := by
              have hkl := (List.getElem?_eq_some_iff.1 hc).1
              have := flat_get (okL_len hok) hx
              rw [← this, List.getElem?_take, if_pos (by omega), List.getElem?_drop] at hc
              exact hc
            obtain ⟨u, hu, hru⟩ := g3.get hfl
          · simp only [Nat.zero_add, List.getD_eq_getElem?_getD, hu, Option.getD_some]
            simpa using hu
          · simp only [List.getD_eq_getElem?_getD, hu, Option.getD_some]
            exact hru.mono q2.1 (.refl _)
        · have hown := ownsRow_new w C e i.size n n C.toList g4 (by rw [List.take_of_length_le (by rw [Array.length_toList, g4]; exact Nat.le_refl _)]) (Nat.le_refl _) (by simp only [maxLen]; omega)
          obtain ⟨q1, q2, q3⟩ := push_row h1 (by omega) (xs := ps.map (kx env)) (by simp [g2]) g3 hok hown (Nat.le_refl _)
          exact wp_val hrun (hn _ _ _ _ _ _ q3 q2 q1 (g2 ▸ hK))
    · cases h
  · -- build
    rename_i t parts hop
    simp only [Option.bind_eq_bind, Option.bind_eq_some_iff] at h
    obtain ⟨z, ⟨i, hi, hz⟩, zs, hzs, d, hd, h⟩ := h
    have fin : ∀ (pf pg : Nat → Option (Nat × Nat)) (ps : List (Nat × Nat × KX)), (∀ i, pg i = pf i) → trParts pf parts.toList = some ps → (∀ q, P.built t q = Instr.fill pg z.cells q) → aOp P (.build zs ps) env σ K → o.wp P a w next Q := fun pf pg ps hpf hps hbu ha => by
      obtain ⟨⟨hok, hb⟩, hK⟩ := ha
      obtain ⟨C', g1, g2, g3⟩ := build_fill (φ := φ) (ι := ι) h2 hpf (parts := parts.toList) (ps := ps) (zs := zs) (C := z.cells) hps (cvs_rel φ ι hzs) hok hb
      have hbuilt : P.built t ((parts.map fun (x : Nat × Operand) => (x.1, a.eval x.2)).toList) = some C' := by
        rw [hbu, Array.toList_map]; exact g1
      refine wp_val (v := .agg C') ?_ (hn.pure h1 (by have := Rel.agg (φ := φ) (ι := ι) (buildC env zs ps) C'.toList g2.1 g3 g2.2; simpa using this) hK)
      have := run_build (P := P) w t _ C' hbuilt
      simp [execOp, hop, this]
    split at h
    · rename_i fs
      simp only [Option.bind_eq_some_iff, Option.some.injEq] at h
      obtain ⟨pl, hpl, ps, hps, rfl⟩ := h
      exact fin (pl[·]?) (pl.toArray[·]?) ps (fun i => by simp) hps (fun q => by unfold Program.built; simp only [hi, hd, hz, hpl]) ha
    · rename_i len e
      simp only [Option.bind_eq_some_iff, Option.some.injEq] at h
      obtain ⟨ie, hie, ps, hps, rfl⟩ := h
      exact fin _ _ ps (fun _ => rfl) hps (fun q => by unfold Program.built; simp only [hi, hd, hz, hie]) ha
    · cases h
  · exact absurd ((by repeat' (first | exact KQ.none _ | exact KQ.some rfl | exact KQ.map fun _ => rfl | refine KQ.bind fun _ => ?_ | split) : KQ true _) _ h) (by simp [hq])
  · -- call
    rename_i c hop
    unfold trCall at h
    split at h
    · rename_i f hcal
      simp only [Option.bind_eq_bind, Option.bind_eq_some_iff, Option.some.injEq] at h
      obtain ⟨x, hx, ys, hys, rfl⟩ := h
      obtain ⟨cal, as, ts⟩ := c
      simp only at hcal hys; subst hcal
      exact call_sound hop hx hys ha h1 h2 hn
    · rename_i b hcal
      obtain ⟨cal, as, ts⟩ := c
      simp only at hcal h; subst hcal
      have hbi : ∀ (bf : Array TypeId → TypeId → Array Value → Sem Value), (∀ tp cs xs, builtin b ts tp cs xs = (do pure (.value (← bf ts tp xs)) : Sem Next)) → ∀ {r : Value} {w' : World}, (bf ts o.type (as.map a.eval)).run P w = .ok r w' → (execOp a.eval o).run P w = .ok (.value r) w' := by
        intro bf hbf r w' hr
        simp only [execOp, hop, resolve, invoke, Sem.run_bind, Sem.run_pure, Result.andThen_ok, hbf, hr]
      unfold trBuiltin at h
      split at h
      · rename_i x t hx0 ht0
        have has : as = #[x] := by apply Array.ext'; simpa using hx0
        have hts : ts = #[t] := by apply Array.ext'; simpa using ht0
        subst has hts
        simp only [Option.bind_eq_bind, Option.bind_eq_some_iff] at h
        obtain ⟨d, hd, h⟩ := h
        split at h
        · simp only [Option.bind_eq_some_iff, Option.some.injEq] at h
          obtain ⟨y, hy, rfl⟩ := h
          simp [quietP] at hq
        · simp only [Option.bind_eq_some_iff, Option.some.injEq] at h
          obtain ⟨y, hy, rfl⟩ := h
          simp [quietP] at hq
        · cases h
      · rename_i s x t t' hx0 ht0
        have has : as = #[s, x] := by apply Array.ext'; simpa using hx0
        have hts : ts = #[t, t'] := by apply Array.ext'; simpa using ht0
        subst has hts
        simp only [Option.bind_eq_bind, Option.bind_eq_some_iff] at h
        obtain ⟨d, hd, h⟩ := h
        split at h
        · simp only [Option.bind_eq_some_iff] at h
          obtain ⟨i, hi, z, hz, h⟩ := h
          split at h
          · rename_i hc
            obtain ⟨rfl, c1, c2, c3⟩ := hc
            simp only [Option.bind_eq_some_iff, Option.some.injEq] at h
            obtain ⟨s', hs, x', hx, rfl⟩ := h
            obtain ⟨c, r, w', ι', σ', g1, g2, g3, g4, g5⟩ := app_sound (P := P) (ty := o.type) h1 hd hi hz c1 c2 c3 (trX_rel h2 hs) (trX_rel h2 hx) ha
            exact wp_val (hbi Builtin.append_ (fun _ _ _ => rfl) (by simpa using g1)) (hn _ _ _ _ _ _ g2 g3 g4 g5)
          · cases h
        · cases h
      · rename_i x r hx0
        have has : as = (x :: r).toArray := by apply Array.ext'; simpa using hx0
        subst has
        simp only [Option.bind_eq_bind, Option.bind_eq_some_iff, Option.some.injEq] at h
        obtain ⟨x', hx, r', hr, rfl⟩ := h
        simp [quietP] at hq
      · rename_i x r hx0
        have has : as = (x :: r).toArray := by apply Array.ext'; simpa using hx0
        subst has
        simp only [Option.bind_eq_bind, Option.bind_eq_some_iff, Option.some.injEq] at h
        obtain ⟨x', hx, r', hr, rfl⟩ := h
        simp [quietP] at hq
      · rename_i x t hx0 ht0
        have has : as = #[x] := by apply Array.ext'; simpa using hx0
        have hts : ts = #[t] := by apply Array.ext'; simpa using ht0
        subst has hts
        simp only [Option.bind_eq_bind, Option.bind_eq_some_iff] at h
        obtain ⟨d, hd, h⟩ := h
        split at h
        · rename_i e
          simp only [Option.bind_eq_some_iff] at h
          obtain ⟨i, hi, z, hz, zs, hzs, h⟩ := h
          split at h
          · cases h
          · rename_i hcond
            have fin : ∀ (zp : PV) x', zp.cs = zs → trX x = some x' → aOp P (.clr i.size zp x') env σ K → o.wp P a w next Q := fun zp x' hzp hx ha => by
              simp only [aOp] at ha
              obtain ⟨w', φ', ι', σ', g1, g2, g3, g4⟩ := clr_sound (P := P) (ty := o.type) h1 hd hi hz hzs (by omega) (by omega) hzp (trX_rel h2 hx) ha
              exact wp_val (hbi Builtin.clear_ (fun _ _ _ => rfl) (by simpa using g1)) (hn _ _ _ _ _ _ (tup_nil_rel φ' ι') g2 g3 g4)
            simp only [Option.bind_eq_some_iff] at h
            obtain ⟨g, hg, h⟩ := h
            split at h
            · simp only [Option.bind_eq_some_iff, Option.some.injEq] at h
              obtain ⟨x', hx, rfl⟩ := h
              exact fin _ x' rfl hx ha
            · split at h
              · rename_i z1
                simp only [Option.bind_eq_some_iff, Option.some.injEq] at h
                obtain ⟨x', hx, rfl⟩ := h
                refine fin z1 x' ?_ hx ha
                have := cvs_ok hzs
                simp at this
                cases z1 <;> simp [PV.ok] at this <;> rfl
              · cases h
        · cases h
      · cases h
    · cases h
  · simp only [Option.some.injEq] at h; subst h; exact ha.elim

theorem op_sound {o : Oper} {fz : List Nat} {p : KP} (h : trOp P fz o.dst o.op = some p) {K : PV → Heap → Prop} (ha : aOp P p env σ K) (h1 : HOK φ ι σ w) (h2 : EOK N φ ι env a) {next : Act → World → Prop} {Q : Exit → Act → World → Prop} (hn : Nx P N φ ι σ w a o.dst K next) : o.wp P a w next Q := by
  cases hq : quietP p with
  | true =>
    obtain ⟨v, c, g1, g2, g3⟩ := op_calm h hq ha h1 h2
    exact wp_val (calm_ok g1) (hn.pure h1 g2 g3)
  | false => exact op_loud h hq ha h1 h2 hn

end Go.Kv
