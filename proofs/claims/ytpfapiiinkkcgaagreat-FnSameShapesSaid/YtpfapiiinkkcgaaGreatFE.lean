/- One slice is frozen ahead of a loop, while the others stay one's own. A framework of this session's own: nothing here speaks of a program. -/
import Derived.Test.YtpfapiiinkkcgaaGreatFD
namespace Go.Kv
set_option linter.unusedVariables false
/-- What becomes of a value as object id is frozen. -/
def Gv (σ : Heap) (id : Nat) (c d : PV) : Prop := Imm (solo σ id) c d ∨ (c = d ∧ ∃ j ver off len, j ≠ id ∧ c = .ref j ver off len)
theorem give_trN (n : Nat) {φ : Frz} {ι : List KLoc} {σ : Heap} {w : World} (ho : HOK φ ι σ w) {id ver esz : Nat} {e : TypeId} {xs : List PV} (hid : σ[id]? = some (.arr ver e esz xs)) :
    ∃ φ1 ι1, HOK φ1 ι1 (σ.set id .dead) w ∧ Tr n φ ι w φ1 ι1 w ∧ ∀ c d v, Gv σ id c d → Rel φ ι c v → Rel φ1 ι1 d v := by
  have hlt := (List.getElem?_eq_some_iff.1 hid).1
  have hltι : id < ι.length := by rw [ho.len]; exact hlt
  have hl : ι[id]? = some ι[id] := List.getElem?_eq_getElem hltι
  have hobj := ho.obj id _ _ hid hl
  obtain ⟨k, e', s, u, hu⟩ : ∃ k e' s u, ι[id] = KLoc.arr k e' s u := by
    cases hx : ι[id] with
    | dead => rw [hx] at hobj; exact hobj.elim
    | box b => rw [hx] at hobj; exact hobj.elim
    | arr k e' s u => exact ⟨k, e', s, u, rfl⟩
  rw [hu] at hl
  obtain ⟨ho1, hLe⟩ := ho.upd (w' := w) (l' := .arr (k + 1) e' s (.slice none 0 0)) (o := .dead) hl (by simp [KLoc.le]) (Nat.le_refl _) (fun _ _ _ => rfl) (fun b hb => by simp [KLoc.block, Value.ownBlock] at hb) (fun b hb => by simp [KLoc.block, Value.ownBlock] at hb) trivial
  let φ1 : Frz := fun b => if u.ownBlock = some b then allFrz w b else φ b
  have hle : FLe φ φ1 := fun b C hb => by
    show (if u.ownBlock = some b then allFrz w b else φ b) = some C
    split
    · rename_i hb2
      have := ho.nf id _ b hl hb2
      rw [this] at hb; cases hb
    · exact hb
  have hin : ∀ (j : Nat) (x : KLoc) (b : Nat), (ι.set id (.arr (k + 1) e' s (.slice none 0 0)))[j]? = some x → x.block = some b → id ≠ j ∧ ι[j]? = some x := fun j x b hx hb => by
    by_cases ej : id = j
    · subst ej; rw [List.getElem?_set_self hltι] at hx; cases hx
      simp [KLoc.block, Value.ownBlock] at hb
    · rw [List.getElem?_set_ne ej] at hx; exact ⟨ej, hx⟩
  have ho2 : HOK φ1 (ι.set id (.arr (k + 1) e' s (.slice none 0 0))) (σ.set id .dead) w := by
    refine ⟨ho1.len, fun b C hb => ?_, fun j x b hx hb => ?_, ho1.dis, ho1.lt, fun j o x h1 h2 => (ho1.obj j o x h1 h2).keep hle (.refl _) (fun _ _ => rfl)⟩
    · replace hb : (if u.ownBlock = some b then allFrz w b else φ b) = some C := hb
      split at hb
      · exact (allFrz_hok w).fz b C hb
      · exact ho.fz b C hb
    · obtain ⟨hj, hx'⟩ := hin j x b hx hb
      show (if u.ownBlock = some b then allFrz w b else φ b) = none
      rw [if_neg fun hb2 : u.ownBlock = some b => hj (ho.dis id j _ x b hl hx' hb2 hb)]
      exact ho.nf j x b hx' hb
  have ht0 : Tr n φ ι w φ1 (ι.set id (.arr (k + 1) e' s (.slice none 0 0))) w := ⟨hle, hLe.of_take _, fun _ _ _ => rfl, Nat.le_refl _, fun b ⟨j, x, hx, hb⟩ => .inl ⟨j, x, (hin j x b hx hb).2, hb⟩, rfl, rfl, rfl, fun b C hb => by
    replace hb : (if u.ownBlock = some b then allFrz w b else φ b) = some C := hb
    split at hb
    · rename_i hb2; exact .inr (.inl ⟨id, _, hl, hb2⟩)
    · exact .inl hb⟩
  refine ⟨φ1, _, ho2, ht0, fun c d v hg hr => ?_⟩
  rcases hg with hi | ⟨rfl, j, vj, off, len, hj, rfl⟩
  · have := hi.rel (ho.solo id) hle (fun j o l' b C e f h1 h2 h3 h4 h5 => ?_) hr
    · exact this.mono (.refl _) (by simpa using LLe.append [] (ι.set id (KLoc.arr (k + 1) e' s (.slice none 0 0))))
    · by_cases ej : id = j
      · subst ej; rw [hl] at h3; cases h3
        show (if u.ownBlock = some b then allFrz w b else φ b) = some C
        rw [if_pos (show u.ownBlock = some b from h4)]; exact allFrz_own h5
      · exact absurd (solo_ne ej h1) h2
  · cases hr with
    | ref _ _ _ _ _ k e esz u hh ho' hk' hv' =>
      exact .ref j vj off len v k e esz u (by rw [List.getElem?_set_ne (Ne.symm hj)]; exact hh) ho' hk' hv'
/-- One slice is frozen ahead of a loop. -/
theorem KL_freezeAt {C : Cfg} {b : KC} {Q : Exit → Env → Heap → Prop} {env env0 env' : Env} {σ : Heap} (live : List Nat) (hn : C.n0 = 0) (hE : keep live env = env0) {id ver esz : Nat} {e : TypeId} {xs : List PV} (hid : σ[id]? = some (.arr ver e esz xs))
    (he : ∀ t, Gv σ id (Kv.look env0 t) (Kv.look env' t)) (h : KL C b Q env' (σ.set id .dead)) : KL C b Q env σ := by
  refine KL_keep live ?_
  rw [hE]
  intro c hc φ ι a w h1 h2
  obtain ⟨φ1, ι1, hok, htr, hrel⟩ := give_trN 0 h1 hid
  have := h c hc φ1 ι1 a w hok ⟨⟨h2.1.sz, h2.1.df, fun t => hrel _ _ _ (he t) (h2.1.rel t)⟩, by simp [hn]⟩
  refine this.mono fun e a' w' ⟨φ', ι', env', σ', g1, g2, g3, g4⟩ => ⟨φ', ι', env', σ', ?_, g2, g3, g4⟩
  rw [hn] at g1 ⊢
  exact htr.trans g1
/-- One slice is frozen as it is handed back, while all else stays one's own. -/
theorem Fin.giveAt {n0 : Nat} {K : PV → Heap → Prop} {v v' : PV} {σ : Heap} {id ver esz : Nat} {e : TypeId} {xs : List PV} (hid : σ[id]? = some (.arr ver e esz xs)) (hg : Gv σ id v v') (h : K v' (σ.set id .dead)) : Fin n0 K v σ :=
  ⟨v', σ.set id .dead, fun φ ι w x _ ho hr => by
    obtain ⟨φ1, ι1, h1, h2, h3⟩ := give_trN n0 ho hid
    exact ⟨φ1, ι1, h2, h1, h3 _ _ _ hg hr⟩, h⟩
end Go.Kv
