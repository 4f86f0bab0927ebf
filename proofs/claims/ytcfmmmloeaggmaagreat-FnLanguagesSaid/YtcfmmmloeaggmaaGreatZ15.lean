/- Several texts of this session as one, less what the claim does not need. -/
import Derived.Test.YtcfmmmloeaggmaaGreatCb
import Derived.Test.YtcfmmmloeaggmaaGreatZ14
namespace Go.Proofs.YtcfmmmloeaggmaaGreat
open Go.Kv
set_option linter.unusedVariables false
set_option linter.unusedSimpArgs false
section
section
set_option maxRecDepth 100000
abbrev k43_t0s0:KT:=(.op (oP 91 (.build [.int .i64 0,.int .i64 0,.nils] [(0,1,(.t 83)),(1,1,(.t 84)),(2,1,(.t 90))])) (.op (oP 92 (.bsl true 121 3 [(.t 91)])) (.op (oP 93 (.app (.t 82) (.t 92) 121 3)) (.op (mV 6 93) .fin))))
abbrev k43_t0s1:KT:=(.op (oP 90 (.app (.t 87) (.t 89) 2 1)) k43_t0s0)
abbrev k43_t0s2:KT:=(.op (oP 89 (.bsl true 2 1 [(.t 88)])) k43_t0s1)
abbrev k43_t0s3:KT:=(.op (oP 87 (.call (fC 115) [(.t 86)])) k43_t0s1)
abbrev k43_t0s4:KT:=(.alt (.op (oP 87 (.call (fC 115) [(.t 86)])) k43_t0s2) (.op (oP 89 (.bsl true 2 1 [(.t 88)])) k43_t0s3))
abbrev k43_t0s5:KT:=(.op (oP 86 (.load false 1 (.t 85))) k43_t0s3)
abbrev k43_t0s6:KT:=(.alt (.op (oP 86 (.load false 1 (.t 85))) k43_t0s4) (.op (oP 89 (.bsl true 2 1 [(.t 88)])) k43_t0s5))
abbrev k43_t0s7:KT:=(.op (oP 85 (.fieldA 2 (.t 8))) k43_t0s5)
abbrev k43_t0s8:KT:=(.alt (.op (oP 85 (.fieldA 2 (.t 8))) k43_t0s6) (.op (oP 89 (.bsl true 2 1 [(.t 88)])) k43_t0s7))
abbrev k43_t0s9:KT:=(.op (oP 84 (.load false 1 (.t 11))) k43_t0s0)
abbrev k43_t0s10:KT:=(.alt (.op (oP 84 (.load false 1 (.t 11))) k43_t0s1) (.op (oP 90 (.app (.t 87) (.t 89) 2 1)) k43_t0s9))
abbrev k43_t0s11:KT:=(.alt (.op (oP 84 (.load false 1 (.t 11))) k43_t0s2) (.op (oP 89 (.bsl true 2 1 [(.t 88)])) k43_t0s10))
abbrev k43_t0s12:KT:=(.alt (.op (oP 84 (.load false 1 (.t 11))) k43_t0s3) (.op (oP 87 (.call (fC 115) [(.t 86)])) k43_t0s10))
abbrev k43_t0s13:KT:=(.alt (.op (oP 84 (.load false 1 (.t 11))) k43_t0s4) (.alt (.op (oP 87 (.call (fC 115) [(.t 86)])) k43_t0s11) (.op (oP 89 (.bsl true 2 1 [(.t 88)])) k43_t0s12)))
abbrev k43_t0s14:KT:=(.alt (.op (oP 84 (.load false 1 (.t 11))) k43_t0s5) (.op (oP 86 (.load false 1 (.t 85))) k43_t0s12))
abbrev k43_t0s15:KT:=(.alt (.op (oP 84 (.load false 1 (.t 11))) k43_t0s6) (.alt (.op (oP 86 (.load false 1 (.t 85))) k43_t0s13) (.op (oP 89 (.bsl true 2 1 [(.t 88)])) k43_t0s14)))
abbrev k43_t0s16:KT:=(.alt (.op (oP 84 (.load false 1 (.t 11))) k43_t0s7) (.op (oP 85 (.fieldA 2 (.t 8))) k43_t0s14))
abbrev k43_t0s17:KT:=(.op (oP 83 (.load false 1 (.t 10))) k43_t0s0)
abbrev k43_t0s18:KT:=(.alt (.op (oP 83 (.load false 1 (.t 10))) k43_t0s1) (.op (oP 90 (.app (.t 87) (.t 89) 2 1)) k43_t0s17))
abbrev k43_t0s19:KT:=(.alt (.op (oP 83 (.load false 1 (.t 10))) k43_t0s2) (.op (oP 89 (.bsl true 2 1 [(.t 88)])) k43_t0s18))
abbrev k43_t0s20:KT:=(.alt (.op (oP 83 (.load false 1 (.t 10))) k43_t0s3) (.op (oP 87 (.call (fC 115) [(.t 86)])) k43_t0s18))
abbrev k43_t0s21:KT:=(.alt (.op (oP 83 (.load false 1 (.t 10))) k43_t0s4) (.alt (.op (oP 87 (.call (fC 115) [(.t 86)])) k43_t0s19) (.op (oP 89 (.bsl true 2 1 [(.t 88)])) k43_t0s20)))
abbrev k43_t0s22:KT:=(.alt (.op (oP 83 (.load false 1 (.t 10))) k43_t0s5) (.op (oP 86 (.load false 1 (.t 85))) k43_t0s20))
abbrev k43_t0s23:KT:=(.alt (.op (oP 83 (.load false 1 (.t 10))) k43_t0s6) (.alt (.op (oP 86 (.load false 1 (.t 85))) k43_t0s21) (.op (oP 89 (.bsl true 2 1 [(.t 88)])) k43_t0s22)))
abbrev k43_t0s24:KT:=(.alt (.op (oP 83 (.load false 1 (.t 10))) k43_t0s7) (.op (oP 85 (.fieldA 2 (.t 8))) k43_t0s22))
abbrev k43_t0s25:KT:=(.alt (.op (oP 83 (.load false 1 (.t 10))) k43_t0s10) (.alt (.op (oP 84 (.load false 1 (.t 11))) k43_t0s18) (.op (oP 90 (.app (.t 87) (.t 89) 2 1)) (.alt (.op (oP 83 (.load false 1 (.t 10))) k43_t0s9) (.op (oP 84 (.load false 1 (.t 11))) k43_t0s17)))))
abbrev k43_t0s26:KT:=(.alt (.op (oP 83 (.load false 1 (.t 10))) k43_t0s12) (.alt (.op (oP 84 (.load false 1 (.t 11))) k43_t0s20) (.op (oP 87 (.call (fC 115) [(.t 86)])) k43_t0s25)))
abbrev k43_t0s27:KT:=(.alt (.op (oP 83 (.load false 1 (.t 10))) k43_t0s14) (.alt (.op (oP 84 (.load false 1 (.t 11))) k43_t0s22) (.op (oP 86 (.load false 1 (.t 85))) k43_t0s26)))
def k43_t0:KT:=(.op (mV 82 6) (.op (mV 88 9) (.alt (.op (oP 83 (.load false 1 (.t 10))) (.alt (.op (oP 84 (.load false 1 (.t 11))) k43_t0s8) (.alt (.op (oP 85 (.fieldA 2 (.t 8))) k43_t0s15) (.op (oP 89 (.bsl true 2 1 [(.t 88)])) k43_t0s16)))) (.alt (.op (oP 84 (.load false 1 (.t 11))) (.alt (.op (oP 83 (.load false 1 (.t 10))) k43_t0s8) (.alt (.op (oP 85 (.fieldA 2 (.t 8))) k43_t0s23) (.op (oP 89 (.bsl true 2 1 [(.t 88)])) k43_t0s24)))) (.alt (.op (oP 85 (.fieldA 2 (.t 8))) (.alt (.op (oP 83 (.load false 1 (.t 10))) k43_t0s15) (.alt (.op (oP 84 (.load false 1 (.t 11))) k43_t0s23) (.alt (.op (oP 86 (.load false 1 (.t 85))) (.alt (.op (oP 83 (.load false 1 (.t 10))) k43_t0s13) (.alt (.op (oP 84 (.load false 1 (.t 11))) k43_t0s21) (.alt (.op (oP 87 (.call (fC 115) [(.t 86)])) (.alt (.op (oP 83 (.load false 1 (.t 10))) k43_t0s11) (.alt (.op (oP 84 (.load false 1 (.t 11))) k43_t0s19) (.op (oP 89 (.bsl true 2 1 [(.t 88)])) k43_t0s25)))) (.op (oP 89 (.bsl true 2 1 [(.t 88)])) k43_t0s26))))) (.op (oP 89 (.bsl true 2 1 [(.t 88)])) k43_t0s27))))) (.op (oP 89 (.bsl true 2 1 [(.t 88)])) (.alt (.op (oP 83 (.load false 1 (.t 10))) k43_t0s16) (.alt (.op (oP 84 (.load false 1 (.t 11))) k43_t0s24) (.op (oP 85 (.fieldA 2 (.t 8))) k43_t0s27)))))))))
abbrev k43_b0s0:KT:=(.op ⟨none,none,.store 1 (.t 10) (.t 68)⟩ (.op ⟨none,none,.store 1 (.t 11) (.t 77)⟩ .fin))
def k43_b0:KC:=(.seq (.ops [oP 58 (.bin .lss (.t 57) (.t 56))])
 (.seq (.cond (.t 58) .skip (.exit 3))
 (.seq (.block 4 (.seq (.ops [mV 59 57,mV 9 59])
 (.seq (.tree (.op (oP 60 (.fieldA 0 (.t 2))) (.op (oP 61 (.load false 1 (.t 60))) (.op (mV 62 9) (.op (oP 63 (.fieldA 0 (.t 8))) (.op (oP 64 (.load false 1 (.t 63))) (.op (oP 65 (.idxS 6 (.t 61) (.t 62))) (.op (oP 66 (.fieldA 1 (.t 65))) (.op (oP 67 (.idxA 5 1 (.t 66) (.t 64))) (.op (oP 68 (.load false 1 (.t 67))) (.op (oP 69 (.fieldA 0 (.t 3))) (.op (oP 70 (.load false 1 (.t 69))) (.op (mV 71 9) (.op (oP 72 (.fieldA 1 (.t 8))) (.op (oP 73 (.load false 1 (.t 72))) (.op (oP 74 (.idxS 6 (.t 70) (.t 71))) (.op (oP 75 (.fieldA 1 (.t 74))) (.op (oP 76 (.idxA 5 1 (.t 75) (.t 73))) (.op (oP 77 (.load false 1 (.t 76))) (.alt (.op (oP 10 (.alloc [.int .i64 0])) (.op (oP 11 (.alloc [.int .i64 0])) k43_b0s0)) (.op (oP 11 (.alloc [.int .i64 0])) (.op (oP 10 (.alloc [.int .i64 0])) k43_b0s0))))))))))))))))))))))
 (.seq (.ops [mV 78 6,oP 79 (.mkfn (.func 114) [] [(.t 10),(.t 11)]),oP 80 (.call (fC 113) [(.t 78),(.t 79)]),oP 81 (.not (.t 80))])
 (.cond (.t 81) (.tree k43_t0) .skip)))))
 (.ops [oP 94 (.bin .add (.t 57) (iC 1)),mV 57 94]))))
def k43_b1:KC:=(.seq (.seq (.ops [mV 35 7,mV 36 6,oP 37 (.len false (.t 36)),oP 38 (.bin .lss (.t 35) (.t 37))])
 (.cond (.t 38) .skip (.exit 1)))
 (.seq (.block 2 (.seq (.ops [mV 41 6,mV 42 7,oP 43 (.idxS 3 (.t 41) (.t 42)),oP 44 (.load true 3 (.t 43)),oP 8 (.alloc [.int .i64 0,.int .i64 0,.nils]),⟨none,none,.store 3 (.t 8) (.t 44)⟩])
 (.seq (.seq (.draw [oP 45 (.fieldA 0 (.t 8)),oP 46 (.load false 1 (.t 45)),oP 48 (.fieldA 1 (.t 8)),oP 49 (.load false 1 (.t 48)),oP 47 (.pcall (fC 50) [(.t 2),(.t 46)]),oP 50 (.pcall (fC 50) [(.t 3),(.t 49)]),oP 51 (.beq true (.t 47) (.t 50))])
 (.cond (.t 51) (.seq (.ops [oP 52 (.fieldA 2 (.t 8)),oP 53 (.load false 1 (.t 52)),mV 4 53,oP 5 (.mv (iC 0))])
 .ret) .skip))
 (.seq (.ops [oP 54 (.fieldA 0 (.t 2)),oP 55 (.load false 1 (.t 54)),oP 56 (.len false (.t 55)),oP 57 (.mv (iC 0))])
 (.block 3 (.loop k43_b0))))))
 (.ops [mV 39 7,oP 40 (.bin .add (.t 39) (iC 1)),mV 7 40])))
def k43:KC:=(.seq (.ops [oP 2 (.box true (.t 0)),oP 3 (.box true (.t 1)),oP 4 (.mv (.c (.nils))),oP 5 (.mv (iC 0))])
 (.seq (.block 0 (.seq (.ops [oP 13 (.load true 3 (.t 2)),oP 14 (.call (fC 46) [(.t 13)]),oP 15 (.not (.t 14)),mV 16 15,⟨(some 17),some (16,false),.load true 3 (.t 3)⟩,⟨(some 18),some (16,false),.call (fC 46) [(.t 17)]⟩,⟨(some 19),some (16,false),.not (.t 18)⟩,oP 20 (.pick (.t 16) (.c (.bool true)) (.t 19)),mV 12 20])
 (.cond (.t 12) (.seq (.ops [oP 4 (.mv (.c (.nils))),oP 5 (.mv (iC 1))])
 .ret) (.seq (.ops [oP 22 (.fieldA 0 (.t 2)),oP 23 (.load false 1 (.t 22)),oP 24 (.len false (.t 23)),oP 25 (.fieldA 0 (.t 3)),oP 26 (.load false 1 (.t 25)),oP 27 (.len false (.t 26)),oP 28 (.bin .neq (.t 24) (.t 27)),mV 21 28])
 (.cond (.t 21) (.seq (.ops [oP 4 (.mv (.c (.nils))),oP 5 (.mv (iC 5))])
 .ret) .skip)))))
 (.seq (.ops [oP 29 (.fieldA 1 (.t 2)),oP 30 (.load false 1 (.t 29)),oP 31 (.fieldA 1 (.t 3)),oP 32 (.load false 1 (.t 31)),oP 33 (.build [.int .i64 0,.int .i64 0,.nils] [(0,1,(.t 30)),(1,1,(.t 32)),(2,1,(.c (.nils)))]),oP 34 (.bsl false 121 3 [(.t 33)]),mV 6 34])
 (.seq (.seq (.ops [oP 7 (.mv (iC 0))])
 (.block 1 (.loop k43_b1)))
 (.seq (.ops [oP 4 (.mv (.c (.nils))),oP 5 (.mv (iC 4))])
 .ret)))))
theorem e43 {args:List PV} {σ:Heap} {K:PV→Heap→Prop} (hl:args.length≤95) (h:Wf σ→(∀ a∈args,PV.upto σ.length a)→vc (mkCfgS Tryz.prog mixed [2,3,89,92] 95 σ.length) k43 (FinK σ.length [.t 4,.t 5] K) (argEnv 0 args) σ):ACall Tryz.prog 43 args σ K :=
 ACall_enter (C:=mkCfgS Tryz.prog mixed [2,3,89,92] 95 σ.length) (c:=Tryz.f43.body.getD .skip) Tryz.func43 (by kernel_rfl) (by kernel_rfl) (by kernel_rfl) rfl hl (by kernel_rfl) (by kernel_rfl) h
end
section
attribute [local irreducible] ACall PCall KL
def dcell (w:PV) (m:Met):PV:=.agg [.int .i64 (m.1.getD 0 0),.int .i64 (m.1.getD 1 0),w]
structure DG (σ:Heap) (ver:Nat) (ws:List PV) (L:List Met):Prop where
 out:σ[0]? = some (.arr ver 121 3 (List.zipWith dcell ws L))
 len:ws.length=L.length
 row:∀ (i:Nat) (w:PV) (m:Met),ws[i]? = some w→L[i]? = some m→Wd σ (fun id=>id=0) w m.2
theorem DG.cell {σ:Heap} {ver:Nat} {ws:List PV} {L:List Met} (h:DG σ ver ws L) {i:Nat} (hi:i<L.length):∃ w,ws[i]? = some w∧(List.zipWith dcell ws L)[i]? = some (dcell w L[i])∧Wd σ (fun id=>id=0) w L[i].2:=by
 have hw:i<ws.length:=by rw [h.len]; exact hi
 refine ⟨ws[i],by simp [hw],by simp [List.getElem?_zipWith,hw,hi],h.row i _ _ (by simp [hw]) (by simp [hi])⟩
theorem DG.imm {σ:Heap} {ver:Nat} {ws:List PV} {L:List Met} (h:DG σ ver ws L):Imm σ (.ref 0 ver 0 L.length) (.list (pcs L)):=by
 refine .ref 0 ver 0 L.length 121 3 _ (pcs L) h.out (by simp [h.len]) (pcs_length L) (fun i x d hx hd=>?_) (fun i x d j c c' hx hd hc hc'=>?_)
 all_goals
  rw [Nat.zero_add] at hx
  have hi:i<L.length:=by have:=(List.getElem?_eq_some_iff.1 hd).1; simpa using this
  obtain ⟨w,hw,hc0,hW⟩:=h.cell hi
  rw [hc0] at hx; cases hx
  rw [pcs_get hi] at hd; cases hd
 ·exact ⟨rfl,by simp [pcell,PV.cs,PV.ok]⟩
 ·rcases j with _ | _ | _ | j
  ·simp only [dcell,pcell,PV.cs,List.getElem?_cons_zero,Option.some.injEq] at hc hc'
   subst hc; subst hc'
   exact .still
  ·simp only [dcell,pcell,PV.cs,List.getElem?_cons_succ,List.getElem?_cons_zero,Option.some.injEq] at hc hc'
   subst hc; subst hc'
   exact .still
  ·simp only [dcell,pcell,PV.cs,List.getElem?_cons_succ,List.getElem?_cons_zero,Option.some.injEq] at hc hc'
   subst hc; subst hc'
   exact hW.imm
  ·simp [dcell,PV.cs] at hc
theorem DG.keep {σ σ':Heap} {ver:Nat} {ws:List PV} {L:List Met} (h:DG σ ver ws L) (hk:∀ id,id < σ.length→σ'[id]? = σ[id]?):DG σ' ver ws L where
 out:=(hk 0 (List.getElem?_eq_some_iff.1 h.out).1).trans h.out
 len:=h.len
 row:=fun i w m hw hm=>(h.row i w m hw hm).keep fun id hid hA=>⟨hk id hid,hA⟩
theorem DG.push {σ:Heap} {ver:Nat} {ws:List PV} {L:List Met} (h:DG σ ver ws L) {X Y:Int} {l:List Int} {w:PV} (hw:Wd σ (fun id=>id=0) w l) (hl:L.length≤1000) {K:PV→Heap→Prop}
  (hK:DG (σ.set 0 (.arr (ver+1) 121 3 (List.zipWith dcell ws L ++ [dcell w ([X,Y],l)]))) (ver+1) (ws ++ [w]) (L ++ [([X,Y],l)])→K (.ref 0 (ver+1) 0 (L.length+1)) (σ.set 0 (.arr (ver+1) 121 3 (List.zipWith dcell ws L ++ [dcell w ([X,Y],l)])))) :
  aApp 121 3 (.ref 0 ver 0 L.length) (.list [.agg [.int .i64 X,.int .i64 Y,w]]) σ K:=by
 have hlt:=(List.getElem?_eq_some_iff.1 h.out).1
 have hzl:(List.zipWith dcell ws L).length=L.length:=by simp [h.len]
 have hok:okL 3 [PV.agg [.int .i64 X,.int .i64 Y,w]]=True:=by
  rcases hw with ⟨rfl,rfl⟩ | ⟨id,ver,rfl,_,_⟩ <;> simp [okL,PV.cs,PV.ok]
 have hQ:DG (σ.set 0 (.arr (ver+1) 121 3 (List.zipWith dcell ws L ++ [dcell w ([X,Y],l)]))) (ver+1) (ws ++ [w]) (L ++ [([X,Y],l)]):=by
  refine ⟨?_,by simp [h.len],fun i w' m hw' hm=>?_⟩
  ·rw [List.getElem?_set_self hlt,List.zipWith_append h.len]
   rfl
  ·have hset:∀ id,id < σ.length→¬ (id=0)→(σ.set 0 (.arr (ver+1) 121 3 (List.zipWith dcell ws L ++ [dcell w ([X,Y],l)])))[id]? = σ[id]?∧¬ (id=0):=fun id _ hA =>
    ⟨List.getElem?_set_ne (Ne.symm hA),hA⟩
   rw [List.getElem?_append] at hw' hm
   split at hw'
   ·rename_i hi
    rw [if_pos (by rw [← h.len]; exact hi)] at hm
    exact (h.row i w' m hw' hm).keep hset
   ·rename_i hi
    rw [if_neg (by rw [← h.len]; exact hi)] at hm
    have e1:=List.mem_of_getElem? hw'
    have e2:=List.mem_of_getElem? hm
    simp only [List.mem_singleton] at e1 e2
    subst e1; subst e2
    exact hw.keep hset
 simp only [aApp_ref,h.out,AppR_arr,aNews_list,hok,true_and,AppM_def]
 rw [List.take_of_length_le (by omega)]
 exact ⟨⟨by omega,by simp; omega⟩,hK hQ⟩
def CL (τ:Heap) (l:List Int) (v:PV) (ρ:Heap):Prop:=(v = .ref τ.length 1 0 l.length∧ρ = τ ++ [.arr 1 2 1 (ints l)])∨(l = []∧v = .nils∧ρ = τ)
theorem CL.app {τ:Heap} {l:List Int} {v:PV} {ρ:Heap} (h:CL τ l v ρ):(∃ x,ρ = τ ++ [x])∨ρ = τ:=by
 rcases h with ⟨_,h⟩ | ⟨_,_,h⟩
 ·exact .inl ⟨_,h⟩
 ·exact .inr h
structure DX (Q:Exit→Env→Heap→Prop) (env0:Env) (τ:Heap) (ver:Nat) (ws:List PV) (L:List Met) (b x10 x11:Nat) (w:PV) (l:List Int) (X Y u v:Int) (k:Nat) (vq:PV):Prop where
 g:DG τ ver ws L
 wd:Wd τ (fun id=>id=0) w l
 b8:τ[b]? = some (.box [.int .i64 u,.int .i64 v,w])
 b10:τ[x10]? = some (.box [.int .i64 X])
 b11:τ[x11]? = some (.box [.int .i64 Y])
 q:vq = .ref 0 ver 0 L.length
 ll:L.length≤1000
 l5:l.length≤1000
 b0:b≠0
 hq:∀ env ρ w',DG ρ (ver+1) (ws ++ [w']) (L ++ [([X,Y],l ++ [(k:Int)])])→ρ[b]? = some (.box [.int .i64 u,.int .i64 v,w])→Wd ρ (fun id=>id=0) w l→(∀ t∈[2,3,7,8,56,57],Kv.look env t=Kv.look env0 t)→Kv.look env 6 = .ref 0 (ver+1) 0 (L.length+1)→Q .normal env ρ
section
variable {vq w:PV} {Q:Exit→Env→Heap→Prop} {env0:Env} {τ:Heap} {b x10 x11 ver k:Nat} {ws:List PV} {L:List Met} {X Y u v:Int} {l:List Int}
theorem DX.at0 (C:DX Q env0 τ ver ws L b x10 x11 w l X Y u v k vq):τ[b]? = some (.box [.int .i64 u,.int .i64 v,w])∧τ[x10]? = some (.box [.int .i64 X])∧τ[x11]? = some (.box [.int .i64 Y]):=⟨C.b8,C.b10,C.b11⟩
theorem DX.at3 (C:DX Q env0 τ ver ws L b x10 x11 w l X Y u v k vq) {ρ:Heap} (h:(∃ x,ρ = τ ++ [x])∨ρ = τ):ρ[b]? = some (.box [.int .i64 u,.int .i64 v,w])∧ρ[x10]? = some (.box [.int .i64 X])∧ρ[x11]? = some (.box [.int .i64 Y]):=by
 rcases h with ⟨x,rfl⟩ | rfl
 ·exact ⟨(List.getElem?_append_left (List.getElem?_eq_some_iff.1 C.b8).1).trans C.b8,(List.getElem?_append_left (List.getElem?_eq_some_iff.1 C.b10).1).trans C.b10,(List.getElem?_append_left (List.getElem?_eq_some_iff.1 C.b11).1).trans C.b11⟩
 ·exact C.at0
theorem DX.clone (C:DX Q env0 τ ver ws L b x10 x11 w l X Y u v k vq) {K:PV→Heap→Prop} (h:∀ v5 ρ,CL τ l v5 ρ→K v5 ρ):ACall Tryz.prog 115 [w] τ K:=by
 have:=C.l5
 refine ACall.lend (p115P l (by omega)) (.cons C.wd.imm (.nil _)) fun v s hv=>?_
 rcases hv with ⟨rfl,rfl⟩ | ⟨hl0,rfl,rfl⟩
 ·refine ⟨⟨free_ref _ _ _ _,Free.ints _ _ _ _⟩,?_⟩
  have e:List.map (AObj.ren (sh τ.length)) [AObj.arr 1 2 1 (ints l)] = [AObj.arr 1 2 1 (ints l)]:=by simp only [go_sem]
  exact h _ _ (.inl ⟨by simp [ren_ref,sh],by rw [e]⟩)
 ·refine ⟨⟨Plain.nils.fr,Free.nil⟩,?_⟩
  exact h _ _ (.inr ⟨hl0,rfl,by simp⟩)
theorem DX.app8 (C:DX Q env0 τ ver ws L b x10 x11 w l X Y u v k vq) {v5:PV} {ρ:Heap} (hv:CL τ l v5 ρ) {K:PV→Heap→Prop} (h:∀ (e:Nat) ρ',ρ' = τ ++ [.arr e 2 1 (ints (l ++ [(k:Int)]))]→K (.ref τ.length e 0 (l.length+1)) ρ'):aApp 2 1 v5 (.list [.int .i64 k]) ρ K:=by
 have:=C.l5
 have hok:okL 1 [PV.int .i64 k]=True:=by simp [okL,PV.cs,PV.ok]
 rcases hv with ⟨rfl,rfl⟩ | ⟨rfl,rfl,rfl⟩
 ·have hg:(τ ++ [AObj.arr 1 2 1 (ints l)])[τ.length]? = some (AObj.arr 1 2 1 (ints l)):=by simp
  have hs:∀ y:AObj,(τ ++ [AObj.arr 1 2 1 (ints l)]).set τ.length y = τ ++ [y]:=fun y=>by
   rw [List.set_append_right _ _ (Nat.le_refl _)]; simp
  simp only [aApp_ref,hg,AppR_arr,aNews_list,hok,true_and,AppM_def,hs]
  rw [List.take_of_length_le (l:=ints l) (i:=l.length) (by simp [ints])]
  refine ⟨⟨by simp [ints],by simp; omega⟩,?_⟩
  exact h _ _ (by simp [ints])
 ·have:=h 0 _ rfl
  simp only [go_sem,aNews_list,hok,true_and]
  exact this
theorem hkp {env env':Env} {t:Nat} {x:PV} (hk:∀ t∈[2,3,7,8,56,57],Kv.look env t=Kv.look env' t) (h:t ∉ [2,3,7,8,56,57]):∀ s∈[2,3,7,8,56,57],Kv.look ((t,x) :: env) s=Kv.look env' s:=fun s hs=>by
 rw [look_cons,if_neg (by rintro rfl; exact h hs)]
 exact hk s hs
theorem dEnd {ρ:Heap} {env:Env} {e:Nat} (C:DX Q env0 τ ver ws L b x10 x11 w l X Y u v k vq) (hρ:ρ = τ ++ [.arr e 2 1 (ints (l ++ [(k:Int)]))]) (h82:Kv.look env 82=vq) (h8:Kv.look env 8 = .ptr b 0) (h10:Kv.look env 10 = .ptr x10 0) (h11:Kv.look env 11 = .ptr x11 0) (hk:∀ t∈[2,3,7,8,56,57],Kv.look env t=Kv.look env0 t) (h90:Kv.look env 90 = .ref τ.length e 0 (l.length+1)) (h83:Kv.look env 83 = .int .i64 X) (h84:Kv.look env 84 = .int .i64 Y) :
  vT Tryz.prog (.op ⟨(some 91),none,.build [.int .i64 0,.int .i64 0,.nils] [(0,1,(.t 83)),(1,1,(.t 84)),(2,1,(.t 90))]⟩ (.op ⟨(some 92),none,.bsl true 121 3 [(.t 91)]⟩ (.op ⟨(some 93),none,.app (.t 82) (.t 92) 121 3⟩ (.op ⟨(some 6),none,.mv (.t 93)⟩ .fin)))) Q env ρ:=by
 simp only [h82,h90,h83,h84,OpK_eq,go_sem]
 have hτ0:0 < τ.length:=(List.getElem?_eq_some_iff.1 C.g.out).1
 have hle:∀ id,id < τ.length→ρ[id]? = τ[id]?:=fun id hid=>by
  rw [hρ]; exact List.getElem?_append_left hid
 have hG:DG ρ ver ws L:=C.g.keep hle
 have hW:Wd ρ (fun id=>id=0) (.ref τ.length e 0 (l.length+1)) (l ++ [(k:Int)]):=by
  refine .inr ⟨τ.length,e,by simp,by rw [hρ]; simp,by omega⟩
 have hWw:Wd ρ (fun id=>id=0) w l:=C.wd.keep fun id hid hA=>⟨hle id hid,hA⟩
 have hb:=(C.at3 (.inl ⟨_,hρ⟩)).1
 rw [C.q]
 refine hG.push hW C.ll fun hQ=>?_
 simp only [OpK_eq,go_sem]
 refine C.hq _ _ _ hQ ?_ ?_ (fun t ht=>?_) (by simp [look_cons])
 ·rw [List.getElem?_set_ne (Ne.symm C.b0)]; exact hb
 ·exact hWw.keep fun id _ hA=>⟨List.getElem?_set_ne (Ne.symm hA),hA⟩
 ·have:=hk t ht
  have h6:t≠91∧t≠92∧t≠93∧t≠6:=by
   simp only [List.mem_cons,List.not_mem_nil,or_false] at ht
   omega
  simp only [look_cons]
  rw [if_neg (Ne.symm h6.2.2.2),if_neg (Ne.symm h6.2.2.1),if_neg (Ne.symm h6.2.1),if_neg (Ne.symm h6.1)]
  exact this
def tE11:KT:=(.op ⟨(some 91),none,.build [.int .i64 0,.int .i64 0,.nils] [(0,1,(.t 83)),(1,1,(.t 84)),(2,1,(.t 90))]⟩ (.op ⟨(some 92),none,.bsl true 121 3 [(.t 91)]⟩ (.op ⟨(some 93),none,.app (.t 82) (.t 92) 121 3⟩ (.op ⟨(some 6),none,.mv (.t 93)⟩ .fin))))
def tE10:KT:=(.op ⟨(some 84),none,.load false 1 (.t 11)⟩ tE11)
def tE01:KT:=(.op ⟨(some 83),none,.load false 1 (.t 10)⟩ tE11)
def tE00:KT:=(.alt (.op ⟨(some 83),none,.load false 1 (.t 10)⟩ tE10) (.op ⟨(some 84),none,.load false 1 (.t 11)⟩ tE01))
def tD1131:KT:=(.op ⟨(some 90),none,.app (.t 87) (.t 89) 2 1⟩ tE11)
def tD0131:KT:=(.alt (.op ⟨(some 83),none,.load false 1 (.t 10)⟩ tD1131) (.op ⟨(some 90),none,.app (.t 87) (.t 89) 2 1⟩ tE01))
def tD1031:KT:=(.alt (.op ⟨(some 84),none,.load false 1 (.t 11)⟩ tD1131) (.op ⟨(some 90),none,.app (.t 87) (.t 89) 2 1⟩ tE10))
def tD1121:KT:=(.op ⟨(some 87),none,.call (.c (.fn (.func 115) [] [])) [(.t 86)]⟩ tD1131)
def tD1130:KT:=(.op ⟨(some 89),none,.bsl true 2 1 [(.t 88)]⟩ tD1131)
def tD0031:KT:=(.alt (.op ⟨(some 83),none,.load false 1 (.t 10)⟩ tD1031) (.alt (.op ⟨(some 84),none,.load false 1 (.t 11)⟩ tD0131) (.op ⟨(some 90),none,.app (.t 87) (.t 89) 2 1⟩ tE00)))
def tD0121:KT:=(.alt (.op ⟨(some 83),none,.load false 1 (.t 10)⟩ tD1121) (.op ⟨(some 87),none,.call (.c (.fn (.func 115) [] [])) [(.t 86)]⟩ tD0131))
def tD0130:KT:=(.alt (.op ⟨(some 83),none,.load false 1 (.t 10)⟩ tD1130) (.op ⟨(some 89),none,.bsl true 2 1 [(.t 88)]⟩ tD0131))
def tD1021:KT:=(.alt (.op ⟨(some 84),none,.load false 1 (.t 11)⟩ tD1121) (.op ⟨(some 87),none,.call (.c (.fn (.func 115) [] [])) [(.t 86)]⟩ tD1031))
def tD1030:KT:=(.alt (.op ⟨(some 84),none,.load false 1 (.t 11)⟩ tD1130) (.op ⟨(some 89),none,.bsl true 2 1 [(.t 88)]⟩ tD1031))
def tD1111:KT:=(.op ⟨(some 86),none,.load false 1 (.t 85)⟩ tD1121)
def tD1120:KT:=(.alt (.op ⟨(some 87),none,.call (.c (.fn (.func 115) [] [])) [(.t 86)]⟩ tD1130) (.op ⟨(some 89),none,.bsl true 2 1 [(.t 88)]⟩ tD1121))
def tD0021:KT:=(.alt (.op ⟨(some 83),none,.load false 1 (.t 10)⟩ tD1021) (.alt (.op ⟨(some 84),none,.load false 1 (.t 11)⟩ tD0121) (.op ⟨(some 87),none,.call (.c (.fn (.func 115) [] [])) [(.t 86)]⟩ tD0031)))
def tD0030:KT:=(.alt (.op ⟨(some 83),none,.load false 1 (.t 10)⟩ tD1030) (.alt (.op ⟨(some 84),none,.load false 1 (.t 11)⟩ tD0130) (.op ⟨(some 89),none,.bsl true 2 1 [(.t 88)]⟩ tD0031)))
def tD0111:KT:=(.alt (.op ⟨(some 83),none,.load false 1 (.t 10)⟩ tD1111) (.op ⟨(some 86),none,.load false 1 (.t 85)⟩ tD0121))
def tD0120:KT:=(.alt (.op ⟨(some 83),none,.load false 1 (.t 10)⟩ tD1120) (.alt (.op ⟨(some 87),none,.call (.c (.fn (.func 115) [] [])) [(.t 86)]⟩ tD0130) (.op ⟨(some 89),none,.bsl true 2 1 [(.t 88)]⟩ tD0121)))
def tD1011:KT:=(.alt (.op ⟨(some 84),none,.load false 1 (.t 11)⟩ tD1111) (.op ⟨(some 86),none,.load false 1 (.t 85)⟩ tD1021))
def tD1020:KT:=(.alt (.op ⟨(some 84),none,.load false 1 (.t 11)⟩ tD1120) (.alt (.op ⟨(some 87),none,.call (.c (.fn (.func 115) [] [])) [(.t 86)]⟩ tD1030) (.op ⟨(some 89),none,.bsl true 2 1 [(.t 88)]⟩ tD1021)))
def tD1101:KT:=(.op ⟨(some 85),none,.fieldA 2 (.t 8)⟩ tD1111)
def tD1110:KT:=(.alt (.op ⟨(some 86),none,.load false 1 (.t 85)⟩ tD1120) (.op ⟨(some 89),none,.bsl true 2 1 [(.t 88)]⟩ tD1111))
def tD0011:KT:=(.alt (.op ⟨(some 83),none,.load false 1 (.t 10)⟩ tD1011) (.alt (.op ⟨(some 84),none,.load false 1 (.t 11)⟩ tD0111) (.op ⟨(some 86),none,.load false 1 (.t 85)⟩ tD0021)))
def tD0020:KT:=(.alt (.op ⟨(some 83),none,.load false 1 (.t 10)⟩ tD1020) (.alt (.op ⟨(some 84),none,.load false 1 (.t 11)⟩ tD0120) (.alt (.op ⟨(some 87),none,.call (.c (.fn (.func 115) [] [])) [(.t 86)]⟩ tD0030) (.op ⟨(some 89),none,.bsl true 2 1 [(.t 88)]⟩ tD0021))))
def tD0101:KT:=(.alt (.op ⟨(some 83),none,.load false 1 (.t 10)⟩ tD1101) (.op ⟨(some 85),none,.fieldA 2 (.t 8)⟩ tD0111))
def tD0110:KT:=(.alt (.op ⟨(some 83),none,.load false 1 (.t 10)⟩ tD1110) (.alt (.op ⟨(some 86),none,.load false 1 (.t 85)⟩ tD0120) (.op ⟨(some 89),none,.bsl true 2 1 [(.t 88)]⟩ tD0111)))
def tD1001:KT:=(.alt (.op ⟨(some 84),none,.load false 1 (.t 11)⟩ tD1101) (.op ⟨(some 85),none,.fieldA 2 (.t 8)⟩ tD1011))
def tD1010:KT:=(.alt (.op ⟨(some 84),none,.load false 1 (.t 11)⟩ tD1110) (.alt (.op ⟨(some 86),none,.load false 1 (.t 85)⟩ tD1020) (.op ⟨(some 89),none,.bsl true 2 1 [(.t 88)]⟩ tD1011)))
def tD1100:KT:=(.alt (.op ⟨(some 85),none,.fieldA 2 (.t 8)⟩ tD1110) (.op ⟨(some 89),none,.bsl true 2 1 [(.t 88)]⟩ tD1101))
def tD0001:KT:=(.alt (.op ⟨(some 83),none,.load false 1 (.t 10)⟩ tD1001) (.alt (.op ⟨(some 84),none,.load false 1 (.t 11)⟩ tD0101) (.op ⟨(some 85),none,.fieldA 2 (.t 8)⟩ tD0011)))
def tD0010:KT:=(.alt (.op ⟨(some 83),none,.load false 1 (.t 10)⟩ tD1010) (.alt (.op ⟨(some 84),none,.load false 1 (.t 11)⟩ tD0110) (.alt (.op ⟨(some 86),none,.load false 1 (.t 85)⟩ tD0020) (.op ⟨(some 89),none,.bsl true 2 1 [(.t 88)]⟩ tD0011))))
def tD0100:KT:=(.alt (.op ⟨(some 83),none,.load false 1 (.t 10)⟩ tD1100) (.alt (.op ⟨(some 85),none,.fieldA 2 (.t 8)⟩ tD0110) (.op ⟨(some 89),none,.bsl true 2 1 [(.t 88)]⟩ tD0101)))
def tD1000:KT:=(.alt (.op ⟨(some 84),none,.load false 1 (.t 11)⟩ tD1100) (.alt (.op ⟨(some 85),none,.fieldA 2 (.t 8)⟩ tD1010) (.op ⟨(some 89),none,.bsl true 2 1 [(.t 88)]⟩ tD1001)))
def tD0000:KT:=(.alt (.op ⟨(some 83),none,.load false 1 (.t 10)⟩ tD1000) (.alt (.op ⟨(some 84),none,.load false 1 (.t 11)⟩ tD0100) (.alt (.op ⟨(some 85),none,.fieldA 2 (.t 8)⟩ tD0010) (.op ⟨(some 89),none,.bsl true 2 1 [(.t 88)]⟩ tD0001))))
theorem tD_all:k43_t0 = .op ⟨(some 82),none,.mv (.t 6)⟩ (.op ⟨(some 88),none,.mv (.t 9)⟩ tD0000):=Eq.trans rfl rfl
theorem dE11 {env:Env} {ρ:Heap} {e:Nat} {vq w:PV} {Q:Exit→Env→Heap→Prop} {env0:Env} {τ:Heap} {b x10 x11 ver k:Nat} {ws:List PV} {L:List Met} {X Y u v:Int} {l:List Int} (C:DX Q env0 τ ver ws L b x10 x11 w l X Y u v k vq) (hρ:ρ = τ ++ [.arr e 2 1 (ints (l ++ [(k:Int)]))]) (h82:Kv.look env 82=vq) (h8:Kv.look env 8 = .ptr b 0) (h10:Kv.look env 10 = .ptr x10 0) (h11:Kv.look env 11 = .ptr x11 0) (hk:∀ t∈[2,3,7,8,56,57],Kv.look env t=Kv.look env0 t) (h90:Kv.look env 90 = .ref τ.length e 0 (l.length+1)) (h83:Kv.look env 83 = .int .i64 X) (h84:Kv.look env 84 = .int .i64 Y):vT Tryz.prog tE11 Q env ρ:=by
 unfold tE11
 exact dEnd C hρ h82 h8 h10 h11 hk h90 h83 h84
theorem dE10 {env:Env} {ρ:Heap} {e:Nat} {vq w:PV} {Q:Exit→Env→Heap→Prop} {env0:Env} {τ:Heap} {b x10 x11 ver k:Nat} {ws:List PV} {L:List Met} {X Y u v:Int} {l:List Int} (C:DX Q env0 τ ver ws L b x10 x11 w l X Y u v k vq) (hρ:ρ = τ ++ [.arr e 2 1 (ints (l ++ [(k:Int)]))]) (h82:Kv.look env 82=vq) (h8:Kv.look env 8 = .ptr b 0) (h10:Kv.look env 10 = .ptr x10 0) (h11:Kv.look env 11 = .ptr x11 0) (hk:∀ t∈[2,3,7,8,56,57],Kv.look env t=Kv.look env0 t) (h90:Kv.look env 90 = .ref τ.length e 0 (l.length+1)) (h83:Kv.look env 83 = .int .i64 X):vT Tryz.prog tE10 Q env ρ:=by
 unfold tE10
 have G:=C.at3 (.inl ⟨_,hρ⟩)
 rw [vT_op]
 simp only [h11,G.2.2,OpK_eq,HKv,go_sem]
 exact dE11 C hρ (by simpa [look_cons] using h82) (by simpa [look_cons] using h8) (by simpa [look_cons] using h10) (by simpa [look_cons] using h11) (hkp hk (by decide)) (by simpa [look_cons] using h90) (by simpa [look_cons] using h83) (by simp [look_cons])
theorem dE01 {env:Env} {ρ:Heap} {e:Nat} {vq w:PV} {Q:Exit→Env→Heap→Prop} {env0:Env} {τ:Heap} {b x10 x11 ver k:Nat} {ws:List PV} {L:List Met} {X Y u v:Int} {l:List Int} (C:DX Q env0 τ ver ws L b x10 x11 w l X Y u v k vq) (hρ:ρ = τ ++ [.arr e 2 1 (ints (l ++ [(k:Int)]))]) (h82:Kv.look env 82=vq) (h8:Kv.look env 8 = .ptr b 0) (h10:Kv.look env 10 = .ptr x10 0) (h11:Kv.look env 11 = .ptr x11 0) (hk:∀ t∈[2,3,7,8,56,57],Kv.look env t=Kv.look env0 t) (h90:Kv.look env 90 = .ref τ.length e 0 (l.length+1)) (h84:Kv.look env 84 = .int .i64 Y):vT Tryz.prog tE01 Q env ρ:=by
 unfold tE01
 have G:=C.at3 (.inl ⟨_,hρ⟩)
 rw [vT_op]
 simp only [h10,G.2.1,OpK_eq,HKv,go_sem]
 exact dE11 C hρ (by simpa [look_cons] using h82) (by simpa [look_cons] using h8) (by simpa [look_cons] using h10) (by simpa [look_cons] using h11) (hkp hk (by decide)) (by simpa [look_cons] using h90) (by simp [look_cons]) (by simpa [look_cons] using h84)
theorem dE00 {env:Env} {ρ:Heap} {e:Nat} {vq w:PV} {Q:Exit→Env→Heap→Prop} {env0:Env} {τ:Heap} {b x10 x11 ver k:Nat} {ws:List PV} {L:List Met} {X Y u v:Int} {l:List Int} (C:DX Q env0 τ ver ws L b x10 x11 w l X Y u v k vq) (hρ:ρ = τ ++ [.arr e 2 1 (ints (l ++ [(k:Int)]))]) (h82:Kv.look env 82=vq) (h8:Kv.look env 8 = .ptr b 0) (h10:Kv.look env 10 = .ptr x10 0) (h11:Kv.look env 11 = .ptr x11 0) (hk:∀ t∈[2,3,7,8,56,57],Kv.look env t=Kv.look env0 t) (h90:Kv.look env 90 = .ref τ.length e 0 (l.length+1)):vT Tryz.prog tE00 Q env ρ:=by
 unfold tE00
 have G:=C.at3 (.inl ⟨_,hρ⟩)
 rw [vT_alt]; refine ⟨?_,?_⟩
 ·rw [vT_op]
  simp only [h10,G.2.1,OpK_eq,HKv,go_sem]
  exact dE10 C hρ (by simpa [look_cons] using h82) (by simpa [look_cons] using h8) (by simpa [look_cons] using h10) (by simpa [look_cons] using h11) (hkp hk (by decide)) (by simpa [look_cons] using h90) (by simp [look_cons])
 rw [vT_op]
 simp only [h11,G.2.2,OpK_eq,HKv,go_sem]
 exact dE01 C hρ (by simpa [look_cons] using h82) (by simpa [look_cons] using h8) (by simpa [look_cons] using h10) (by simpa [look_cons] using h11) (hkp hk (by decide)) (by simpa [look_cons] using h90) (by simp [look_cons])
theorem dD1131 {env:Env} {ρ:Heap} {v5:PV} {vq w:PV} {Q:Exit→Env→Heap→Prop} {env0:Env} {τ:Heap} {b x10 x11 ver k:Nat} {ws:List PV} {L:List Met} {X Y u v:Int} {l:List Int} (C:DX Q env0 τ ver ws L b x10 x11 w l X Y u v k vq) (h82:Kv.look env 82=vq) (h8:Kv.look env 8 = .ptr b 0) (h10:Kv.look env 10 = .ptr x10 0) (h11:Kv.look env 11 = .ptr x11 0) (hk:∀ t∈[2,3,7,8,56,57],Kv.look env t=Kv.look env0 t) (h88:Kv.look env 88 = .int .i64 k) (h83:Kv.look env 83 = .int .i64 X) (h84:Kv.look env 84 = .int .i64 Y) (h85:Kv.look env 85 = .ptr b 2) (h86:Kv.look env 86=w) (hv:CL τ l v5 ρ) (h87:Kv.look env 87=v5) (h89:Kv.look env 89 = .list [.int .i64 k]):vT Tryz.prog tD1131 Q env ρ:=by
 unfold tD1131
 have G:=C.at3 hv.app
 rw [vT_op]
 simp only [h87,h89,go_sem]
 refine C.app8 hv fun e ρ hρ=>?_
 simp only [OpK_eq,go_sem]
 exact dE11 C hρ (by simpa [look_cons] using h82) (by simpa [look_cons] using h8) (by simpa [look_cons] using h10) (by simpa [look_cons] using h11) (hkp hk (by decide)) (by simp [look_cons]) (by simpa [look_cons] using h83) (by simpa [look_cons] using h84)
theorem dD0131 {env:Env} {ρ:Heap} {v5:PV} {vq w:PV} {Q:Exit→Env→Heap→Prop} {env0:Env} {τ:Heap} {b x10 x11 ver k:Nat} {ws:List PV} {L:List Met} {X Y u v:Int} {l:List Int} (C:DX Q env0 τ ver ws L b x10 x11 w l X Y u v k vq) (h82:Kv.look env 82=vq) (h8:Kv.look env 8 = .ptr b 0) (h10:Kv.look env 10 = .ptr x10 0) (h11:Kv.look env 11 = .ptr x11 0) (hk:∀ t∈[2,3,7,8,56,57],Kv.look env t=Kv.look env0 t) (h88:Kv.look env 88 = .int .i64 k) (h84:Kv.look env 84 = .int .i64 Y) (h85:Kv.look env 85 = .ptr b 2) (h86:Kv.look env 86=w) (hv:CL τ l v5 ρ) (h87:Kv.look env 87=v5) (h89:Kv.look env 89 = .list [.int .i64 k]):vT Tryz.prog tD0131 Q env ρ:=by
 unfold tD0131
 have G:=C.at3 hv.app
 rw [vT_alt]; refine ⟨?_,?_⟩
 ·rw [vT_op]
  simp only [h10,G.2.1,OpK_eq,HKv,go_sem]
  exact dD1131 C (by simpa [look_cons] using h82) (by simpa [look_cons] using h8) (by simpa [look_cons] using h10) (by simpa [look_cons] using h11) (hkp hk (by decide)) (by simpa [look_cons] using h88) (by simp [look_cons]) (by simpa [look_cons] using h84) (by simpa [look_cons] using h85) (by simpa [look_cons] using h86) hv (by simpa [look_cons] using h87) (by simpa [look_cons] using h89)
 rw [vT_op]
 simp only [h87,h89,go_sem]
 refine C.app8 hv fun e ρ hρ=>?_
 simp only [OpK_eq,go_sem]
 exact dE01 C hρ (by simpa [look_cons] using h82) (by simpa [look_cons] using h8) (by simpa [look_cons] using h10) (by simpa [look_cons] using h11) (hkp hk (by decide)) (by simp [look_cons]) (by simpa [look_cons] using h84)
theorem dD1031 {env:Env} {ρ:Heap} {v5:PV} {vq w:PV} {Q:Exit→Env→Heap→Prop} {env0:Env} {τ:Heap} {b x10 x11 ver k:Nat} {ws:List PV} {L:List Met} {X Y u v:Int} {l:List Int} (C:DX Q env0 τ ver ws L b x10 x11 w l X Y u v k vq) (h82:Kv.look env 82=vq) (h8:Kv.look env 8 = .ptr b 0) (h10:Kv.look env 10 = .ptr x10 0) (h11:Kv.look env 11 = .ptr x11 0) (hk:∀ t∈[2,3,7,8,56,57],Kv.look env t=Kv.look env0 t) (h88:Kv.look env 88 = .int .i64 k) (h83:Kv.look env 83 = .int .i64 X) (h85:Kv.look env 85 = .ptr b 2) (h86:Kv.look env 86=w) (hv:CL τ l v5 ρ) (h87:Kv.look env 87=v5) (h89:Kv.look env 89 = .list [.int .i64 k]):vT Tryz.prog tD1031 Q env ρ:=by
 unfold tD1031
 have G:=C.at3 hv.app
 rw [vT_alt]; refine ⟨?_,?_⟩
 ·rw [vT_op]
  simp only [h11,G.2.2,OpK_eq,HKv,go_sem]
  exact dD1131 C (by simpa [look_cons] using h82) (by simpa [look_cons] using h8) (by simpa [look_cons] using h10) (by simpa [look_cons] using h11) (hkp hk (by decide)) (by simpa [look_cons] using h88) (by simpa [look_cons] using h83) (by simp [look_cons]) (by simpa [look_cons] using h85) (by simpa [look_cons] using h86) hv (by simpa [look_cons] using h87) (by simpa [look_cons] using h89)
 rw [vT_op]
 simp only [h87,h89,go_sem]
 refine C.app8 hv fun e ρ hρ=>?_
 simp only [OpK_eq,go_sem]
 exact dE10 C hρ (by simpa [look_cons] using h82) (by simpa [look_cons] using h8) (by simpa [look_cons] using h10) (by simpa [look_cons] using h11) (hkp hk (by decide)) (by simp [look_cons]) (by simpa [look_cons] using h83)
theorem dD1121 {env:Env} {vq w:PV} {Q:Exit→Env→Heap→Prop} {env0:Env} {τ:Heap} {b x10 x11 ver k:Nat} {ws:List PV} {L:List Met} {X Y u v:Int} {l:List Int} (C:DX Q env0 τ ver ws L b x10 x11 w l X Y u v k vq) (h82:Kv.look env 82=vq) (h8:Kv.look env 8 = .ptr b 0) (h10:Kv.look env 10 = .ptr x10 0) (h11:Kv.look env 11 = .ptr x11 0) (hk:∀ t∈[2,3,7,8,56,57],Kv.look env t=Kv.look env0 t) (h88:Kv.look env 88 = .int .i64 k) (h83:Kv.look env 83 = .int .i64 X) (h84:Kv.look env 84 = .int .i64 Y) (h85:Kv.look env 85 = .ptr b 2) (h86:Kv.look env 86=w) (h89:Kv.look env 89 = .list [.int .i64 k]):vT Tryz.prog tD1121 Q env τ:=by
 unfold tD1121
 have G:=C.at0
 rw [vT_op]
 simp only [h86,go_sem]
 refine C.clone fun v5 ρ hv=>?_
 simp only [OpK_eq,go_sem]
 exact dD1131 C (by simpa [look_cons] using h82) (by simpa [look_cons] using h8) (by simpa [look_cons] using h10) (by simpa [look_cons] using h11) (hkp hk (by decide)) (by simpa [look_cons] using h88) (by simpa [look_cons] using h83) (by simpa [look_cons] using h84) (by simpa [look_cons] using h85) (by simpa [look_cons] using h86) hv (by simp [look_cons]) (by simpa [look_cons] using h89)
theorem dD1130 {env:Env} {ρ:Heap} {v5:PV} {vq w:PV} {Q:Exit→Env→Heap→Prop} {env0:Env} {τ:Heap} {b x10 x11 ver k:Nat} {ws:List PV} {L:List Met} {X Y u v:Int} {l:List Int} (C:DX Q env0 τ ver ws L b x10 x11 w l X Y u v k vq) (h82:Kv.look env 82=vq) (h8:Kv.look env 8 = .ptr b 0) (h10:Kv.look env 10 = .ptr x10 0) (h11:Kv.look env 11 = .ptr x11 0) (hk:∀ t∈[2,3,7,8,56,57],Kv.look env t=Kv.look env0 t) (h88:Kv.look env 88 = .int .i64 k) (h83:Kv.look env 83 = .int .i64 X) (h84:Kv.look env 84 = .int .i64 Y) (h85:Kv.look env 85 = .ptr b 2) (h86:Kv.look env 86=w) (hv:CL τ l v5 ρ) (h87:Kv.look env 87=v5):vT Tryz.prog tD1130 Q env ρ:=by
 unfold tD1130
 have G:=C.at3 hv.app
 rw [vT_op]
 simp only [h88,OpK_eq,go_sem]
 exact dD1131 C (by simpa [look_cons] using h82) (by simpa [look_cons] using h8) (by simpa [look_cons] using h10) (by simpa [look_cons] using h11) (hkp hk (by decide)) (by simpa [look_cons] using h88) (by simpa [look_cons] using h83) (by simpa [look_cons] using h84) (by simpa [look_cons] using h85) (by simpa [look_cons] using h86) hv (by simpa [look_cons] using h87) (by simp [look_cons])
theorem dD0031 {env:Env} {ρ:Heap} {v5:PV} {vq w:PV} {Q:Exit→Env→Heap→Prop} {env0:Env} {τ:Heap} {b x10 x11 ver k:Nat} {ws:List PV} {L:List Met} {X Y u v:Int} {l:List Int} (C:DX Q env0 τ ver ws L b x10 x11 w l X Y u v k vq) (h82:Kv.look env 82=vq) (h8:Kv.look env 8 = .ptr b 0) (h10:Kv.look env 10 = .ptr x10 0) (h11:Kv.look env 11 = .ptr x11 0) (hk:∀ t∈[2,3,7,8,56,57],Kv.look env t=Kv.look env0 t) (h88:Kv.look env 88 = .int .i64 k) (h85:Kv.look env 85 = .ptr b 2) (h86:Kv.look env 86=w) (hv:CL τ l v5 ρ) (h87:Kv.look env 87=v5) (h89:Kv.look env 89 = .list [.int .i64 k]):vT Tryz.prog tD0031 Q env ρ:=by
 unfold tD0031
 have G:=C.at3 hv.app
 rw [vT_alt]; refine ⟨?_,?_⟩
 ·rw [vT_op]
  simp only [h10,G.2.1,OpK_eq,HKv,go_sem]
  exact dD1031 C (by simpa [look_cons] using h82) (by simpa [look_cons] using h8) (by simpa [look_cons] using h10) (by simpa [look_cons] using h11) (hkp hk (by decide)) (by simpa [look_cons] using h88) (by simp [look_cons]) (by simpa [look_cons] using h85) (by simpa [look_cons] using h86) hv (by simpa [look_cons] using h87) (by simpa [look_cons] using h89)
 rw [vT_alt]; refine ⟨?_,?_⟩
 ·rw [vT_op]
  simp only [h11,G.2.2,OpK_eq,HKv,go_sem]
  exact dD0131 C (by simpa [look_cons] using h82) (by simpa [look_cons] using h8) (by simpa [look_cons] using h10) (by simpa [look_cons] using h11) (hkp hk (by decide)) (by simpa [look_cons] using h88) (by simp [look_cons]) (by simpa [look_cons] using h85) (by simpa [look_cons] using h86) hv (by simpa [look_cons] using h87) (by simpa [look_cons] using h89)
 rw [vT_op]
 simp only [h87,h89,go_sem]
 refine C.app8 hv fun e ρ hρ=>?_
 simp only [OpK_eq,go_sem]
 exact dE00 C hρ (by simpa [look_cons] using h82) (by simpa [look_cons] using h8) (by simpa [look_cons] using h10) (by simpa [look_cons] using h11) (hkp hk (by decide)) (by simp [look_cons])
theorem dD0121 {env:Env} {vq w:PV} {Q:Exit→Env→Heap→Prop} {env0:Env} {τ:Heap} {b x10 x11 ver k:Nat} {ws:List PV} {L:List Met} {X Y u v:Int} {l:List Int} (C:DX Q env0 τ ver ws L b x10 x11 w l X Y u v k vq) (h82:Kv.look env 82=vq) (h8:Kv.look env 8 = .ptr b 0) (h10:Kv.look env 10 = .ptr x10 0) (h11:Kv.look env 11 = .ptr x11 0) (hk:∀ t∈[2,3,7,8,56,57],Kv.look env t=Kv.look env0 t) (h88:Kv.look env 88 = .int .i64 k) (h84:Kv.look env 84 = .int .i64 Y) (h85:Kv.look env 85 = .ptr b 2) (h86:Kv.look env 86=w) (h89:Kv.look env 89 = .list [.int .i64 k]):vT Tryz.prog tD0121 Q env τ:=by
 unfold tD0121
 have G:=C.at0
 rw [vT_alt]; refine ⟨?_,?_⟩
 ·rw [vT_op]
  simp only [h10,G.2.1,OpK_eq,HKv,go_sem]
  exact dD1121 C (by simpa [look_cons] using h82) (by simpa [look_cons] using h8) (by simpa [look_cons] using h10) (by simpa [look_cons] using h11) (hkp hk (by decide)) (by simpa [look_cons] using h88) (by simp [look_cons]) (by simpa [look_cons] using h84) (by simpa [look_cons] using h85) (by simpa [look_cons] using h86) (by simpa [look_cons] using h89)
 rw [vT_op]
 simp only [h86,go_sem]
 refine C.clone fun v5 ρ hv=>?_
 simp only [OpK_eq,go_sem]
 exact dD0131 C (by simpa [look_cons] using h82) (by simpa [look_cons] using h8) (by simpa [look_cons] using h10) (by simpa [look_cons] using h11) (hkp hk (by decide)) (by simpa [look_cons] using h88) (by simpa [look_cons] using h84) (by simpa [look_cons] using h85) (by simpa [look_cons] using h86) hv (by simp [look_cons]) (by simpa [look_cons] using h89)
theorem dD0130 {env:Env} {ρ:Heap} {v5:PV} {vq w:PV} {Q:Exit→Env→Heap→Prop} {env0:Env} {τ:Heap} {b x10 x11 ver k:Nat} {ws:List PV} {L:List Met} {X Y u v:Int} {l:List Int} (C:DX Q env0 τ ver ws L b x10 x11 w l X Y u v k vq) (h82:Kv.look env 82=vq) (h8:Kv.look env 8 = .ptr b 0) (h10:Kv.look env 10 = .ptr x10 0) (h11:Kv.look env 11 = .ptr x11 0) (hk:∀ t∈[2,3,7,8,56,57],Kv.look env t=Kv.look env0 t) (h88:Kv.look env 88 = .int .i64 k) (h84:Kv.look env 84 = .int .i64 Y) (h85:Kv.look env 85 = .ptr b 2) (h86:Kv.look env 86=w) (hv:CL τ l v5 ρ) (h87:Kv.look env 87=v5):vT Tryz.prog tD0130 Q env ρ:=by
 unfold tD0130
 have G:=C.at3 hv.app
 rw [vT_alt]; refine ⟨?_,?_⟩
 ·rw [vT_op]
  simp only [h10,G.2.1,OpK_eq,HKv,go_sem]
  exact dD1130 C (by simpa [look_cons] using h82) (by simpa [look_cons] using h8) (by simpa [look_cons] using h10) (by simpa [look_cons] using h11) (hkp hk (by decide)) (by simpa [look_cons] using h88) (by simp [look_cons]) (by simpa [look_cons] using h84) (by simpa [look_cons] using h85) (by simpa [look_cons] using h86) hv (by simpa [look_cons] using h87)
 rw [vT_op]
 simp only [h88,OpK_eq,go_sem]
 exact dD0131 C (by simpa [look_cons] using h82) (by simpa [look_cons] using h8) (by simpa [look_cons] using h10) (by simpa [look_cons] using h11) (hkp hk (by decide)) (by simpa [look_cons] using h88) (by simpa [look_cons] using h84) (by simpa [look_cons] using h85) (by simpa [look_cons] using h86) hv (by simpa [look_cons] using h87) (by simp [look_cons])
theorem dD1021 {env:Env} {vq w:PV} {Q:Exit→Env→Heap→Prop} {env0:Env} {τ:Heap} {b x10 x11 ver k:Nat} {ws:List PV} {L:List Met} {X Y u v:Int} {l:List Int} (C:DX Q env0 τ ver ws L b x10 x11 w l X Y u v k vq) (h82:Kv.look env 82=vq) (h8:Kv.look env 8 = .ptr b 0) (h10:Kv.look env 10 = .ptr x10 0) (h11:Kv.look env 11 = .ptr x11 0) (hk:∀ t∈[2,3,7,8,56,57],Kv.look env t=Kv.look env0 t) (h88:Kv.look env 88 = .int .i64 k) (h83:Kv.look env 83 = .int .i64 X) (h85:Kv.look env 85 = .ptr b 2) (h86:Kv.look env 86=w) (h89:Kv.look env 89 = .list [.int .i64 k]):vT Tryz.prog tD1021 Q env τ:=by
 unfold tD1021
 have G:=C.at0
 rw [vT_alt]; refine ⟨?_,?_⟩
 ·rw [vT_op]
  simp only [h11,G.2.2,OpK_eq,HKv,go_sem]
  exact dD1121 C (by simpa [look_cons] using h82) (by simpa [look_cons] using h8) (by simpa [look_cons] using h10) (by simpa [look_cons] using h11) (hkp hk (by decide)) (by simpa [look_cons] using h88) (by simpa [look_cons] using h83) (by simp [look_cons]) (by simpa [look_cons] using h85) (by simpa [look_cons] using h86) (by simpa [look_cons] using h89)
 rw [vT_op]
 simp only [h86,go_sem]
 refine C.clone fun v5 ρ hv=>?_
 simp only [OpK_eq,go_sem]
 exact dD1031 C (by simpa [look_cons] using h82) (by simpa [look_cons] using h8) (by simpa [look_cons] using h10) (by simpa [look_cons] using h11) (hkp hk (by decide)) (by simpa [look_cons] using h88) (by simpa [look_cons] using h83) (by simpa [look_cons] using h85) (by simpa [look_cons] using h86) hv (by simp [look_cons]) (by simpa [look_cons] using h89)
theorem dD1030 {env:Env} {ρ:Heap} {v5:PV} {vq w:PV} {Q:Exit→Env→Heap→Prop} {env0:Env} {τ:Heap} {b x10 x11 ver k:Nat} {ws:List PV} {L:List Met} {X Y u v:Int} {l:List Int} (C:DX Q env0 τ ver ws L b x10 x11 w l X Y u v k vq) (h82:Kv.look env 82=vq) (h8:Kv.look env 8 = .ptr b 0) (h10:Kv.look env 10 = .ptr x10 0) (h11:Kv.look env 11 = .ptr x11 0) (hk:∀ t∈[2,3,7,8,56,57],Kv.look env t=Kv.look env0 t) (h88:Kv.look env 88 = .int .i64 k) (h83:Kv.look env 83 = .int .i64 X) (h85:Kv.look env 85 = .ptr b 2) (h86:Kv.look env 86=w) (hv:CL τ l v5 ρ) (h87:Kv.look env 87=v5):vT Tryz.prog tD1030 Q env ρ:=by
 unfold tD1030
 have G:=C.at3 hv.app
 rw [vT_alt]; refine ⟨?_,?_⟩
 ·rw [vT_op]
  simp only [h11,G.2.2,OpK_eq,HKv,go_sem]
  exact dD1130 C (by simpa [look_cons] using h82) (by simpa [look_cons] using h8) (by simpa [look_cons] using h10) (by simpa [look_cons] using h11) (hkp hk (by decide)) (by simpa [look_cons] using h88) (by simpa [look_cons] using h83) (by simp [look_cons]) (by simpa [look_cons] using h85) (by simpa [look_cons] using h86) hv (by simpa [look_cons] using h87)
 rw [vT_op]
 simp only [h88,OpK_eq,go_sem]
 exact dD1031 C (by simpa [look_cons] using h82) (by simpa [look_cons] using h8) (by simpa [look_cons] using h10) (by simpa [look_cons] using h11) (hkp hk (by decide)) (by simpa [look_cons] using h88) (by simpa [look_cons] using h83) (by simpa [look_cons] using h85) (by simpa [look_cons] using h86) hv (by simpa [look_cons] using h87) (by simp [look_cons])
theorem dD1111 {env:Env} {vq w:PV} {Q:Exit→Env→Heap→Prop} {env0:Env} {τ:Heap} {b x10 x11 ver k:Nat} {ws:List PV} {L:List Met} {X Y u v:Int} {l:List Int} (C:DX Q env0 τ ver ws L b x10 x11 w l X Y u v k vq) (h82:Kv.look env 82=vq) (h8:Kv.look env 8 = .ptr b 0) (h10:Kv.look env 10 = .ptr x10 0) (h11:Kv.look env 11 = .ptr x11 0) (hk:∀ t∈[2,3,7,8,56,57],Kv.look env t=Kv.look env0 t) (h88:Kv.look env 88 = .int .i64 k) (h83:Kv.look env 83 = .int .i64 X) (h84:Kv.look env 84 = .int .i64 Y) (h85:Kv.look env 85 = .ptr b 2) (h89:Kv.look env 89 = .list [.int .i64 k]):vT Tryz.prog tD1111 Q env τ:=by
 unfold tD1111
 have G:=C.at0
 rw [vT_op]
 simp only [h85,G.1,OpK_eq,HKv,go_sem]
 exact dD1121 C (by simpa [look_cons] using h82) (by simpa [look_cons] using h8) (by simpa [look_cons] using h10) (by simpa [look_cons] using h11) (hkp hk (by decide)) (by simpa [look_cons] using h88) (by simpa [look_cons] using h83) (by simpa [look_cons] using h84) (by simpa [look_cons] using h85) (by simp [look_cons]) (by simpa [look_cons] using h89)
theorem dD1120 {env:Env} {vq w:PV} {Q:Exit→Env→Heap→Prop} {env0:Env} {τ:Heap} {b x10 x11 ver k:Nat} {ws:List PV} {L:List Met} {X Y u v:Int} {l:List Int} (C:DX Q env0 τ ver ws L b x10 x11 w l X Y u v k vq) (h82:Kv.look env 82=vq) (h8:Kv.look env 8 = .ptr b 0) (h10:Kv.look env 10 = .ptr x10 0) (h11:Kv.look env 11 = .ptr x11 0) (hk:∀ t∈[2,3,7,8,56,57],Kv.look env t=Kv.look env0 t) (h88:Kv.look env 88 = .int .i64 k) (h83:Kv.look env 83 = .int .i64 X) (h84:Kv.look env 84 = .int .i64 Y) (h85:Kv.look env 85 = .ptr b 2) (h86:Kv.look env 86=w):vT Tryz.prog tD1120 Q env τ:=by
 unfold tD1120
 have G:=C.at0
 rw [vT_alt]; refine ⟨?_,?_⟩
 ·rw [vT_op]
  simp only [h86,go_sem]
  refine C.clone fun v5 ρ hv=>?_
  simp only [OpK_eq,go_sem]
  exact dD1130 C (by simpa [look_cons] using h82) (by simpa [look_cons] using h8) (by simpa [look_cons] using h10) (by simpa [look_cons] using h11) (hkp hk (by decide)) (by simpa [look_cons] using h88) (by simpa [look_cons] using h83) (by simpa [look_cons] using h84) (by simpa [look_cons] using h85) (by simpa [look_cons] using h86) hv (by simp [look_cons])
 rw [vT_op]
 simp only [h88,OpK_eq,go_sem]
 exact dD1121 C (by simpa [look_cons] using h82) (by simpa [look_cons] using h8) (by simpa [look_cons] using h10) (by simpa [look_cons] using h11) (hkp hk (by decide)) (by simpa [look_cons] using h88) (by simpa [look_cons] using h83) (by simpa [look_cons] using h84) (by simpa [look_cons] using h85) (by simpa [look_cons] using h86) (by simp [look_cons])
theorem dD0021 {env:Env} {vq w:PV} {Q:Exit→Env→Heap→Prop} {env0:Env} {τ:Heap} {b x10 x11 ver k:Nat} {ws:List PV} {L:List Met} {X Y u v:Int} {l:List Int} (C:DX Q env0 τ ver ws L b x10 x11 w l X Y u v k vq) (h82:Kv.look env 82=vq) (h8:Kv.look env 8 = .ptr b 0) (h10:Kv.look env 10 = .ptr x10 0) (h11:Kv.look env 11 = .ptr x11 0) (hk:∀ t∈[2,3,7,8,56,57],Kv.look env t=Kv.look env0 t) (h88:Kv.look env 88 = .int .i64 k) (h85:Kv.look env 85 = .ptr b 2) (h86:Kv.look env 86=w) (h89:Kv.look env 89 = .list [.int .i64 k]):vT Tryz.prog tD0021 Q env τ:=by
 unfold tD0021
 have G:=C.at0
 rw [vT_alt]; refine ⟨?_,?_⟩
 ·rw [vT_op]
  simp only [h10,G.2.1,OpK_eq,HKv,go_sem]
  exact dD1021 C (by simpa [look_cons] using h82) (by simpa [look_cons] using h8) (by simpa [look_cons] using h10) (by simpa [look_cons] using h11) (hkp hk (by decide)) (by simpa [look_cons] using h88) (by simp [look_cons]) (by simpa [look_cons] using h85) (by simpa [look_cons] using h86) (by simpa [look_cons] using h89)
 rw [vT_alt]; refine ⟨?_,?_⟩
 ·rw [vT_op]
  simp only [h11,G.2.2,OpK_eq,HKv,go_sem]
  exact dD0121 C (by simpa [look_cons] using h82) (by simpa [look_cons] using h8) (by simpa [look_cons] using h10) (by simpa [look_cons] using h11) (hkp hk (by decide)) (by simpa [look_cons] using h88) (by simp [look_cons]) (by simpa [look_cons] using h85) (by simpa [look_cons] using h86) (by simpa [look_cons] using h89)
 rw [vT_op]
 simp only [h86,go_sem]
 refine C.clone fun v5 ρ hv=>?_
 simp only [OpK_eq,go_sem]
 exact dD0031 C (by simpa [look_cons] using h82) (by simpa [look_cons] using h8) (by simpa [look_cons] using h10) (by simpa [look_cons] using h11) (hkp hk (by decide)) (by simpa [look_cons] using h88) (by simpa [look_cons] using h85) (by simpa [look_cons] using h86) hv (by simp [look_cons]) (by simpa [look_cons] using h89)
theorem dD0030 {env:Env} {ρ:Heap} {v5:PV} {vq w:PV} {Q:Exit→Env→Heap→Prop} {env0:Env} {τ:Heap} {b x10 x11 ver k:Nat} {ws:List PV} {L:List Met} {X Y u v:Int} {l:List Int} (C:DX Q env0 τ ver ws L b x10 x11 w l X Y u v k vq) (h82:Kv.look env 82=vq) (h8:Kv.look env 8 = .ptr b 0) (h10:Kv.look env 10 = .ptr x10 0) (h11:Kv.look env 11 = .ptr x11 0) (hk:∀ t∈[2,3,7,8,56,57],Kv.look env t=Kv.look env0 t) (h88:Kv.look env 88 = .int .i64 k) (h85:Kv.look env 85 = .ptr b 2) (h86:Kv.look env 86=w) (hv:CL τ l v5 ρ) (h87:Kv.look env 87=v5):vT Tryz.prog tD0030 Q env ρ:=by
 unfold tD0030
 have G:=C.at3 hv.app
 rw [vT_alt]; refine ⟨?_,?_⟩
 ·rw [vT_op]
  simp only [h10,G.2.1,OpK_eq,HKv,go_sem]
  exact dD1030 C (by simpa [look_cons] using h82) (by simpa [look_cons] using h8) (by simpa [look_cons] using h10) (by simpa [look_cons] using h11) (hkp hk (by decide)) (by simpa [look_cons] using h88) (by simp [look_cons]) (by simpa [look_cons] using h85) (by simpa [look_cons] using h86) hv (by simpa [look_cons] using h87)
 rw [vT_alt]; refine ⟨?_,?_⟩
 ·rw [vT_op]
  simp only [h11,G.2.2,OpK_eq,HKv,go_sem]
  exact dD0130 C (by simpa [look_cons] using h82) (by simpa [look_cons] using h8) (by simpa [look_cons] using h10) (by simpa [look_cons] using h11) (hkp hk (by decide)) (by simpa [look_cons] using h88) (by simp [look_cons]) (by simpa [look_cons] using h85) (by simpa [look_cons] using h86) hv (by simpa [look_cons] using h87)
 rw [vT_op]
 simp only [h88,OpK_eq,go_sem]
 exact dD0031 C (by simpa [look_cons] using h82) (by simpa [look_cons] using h8) (by simpa [look_cons] using h10) (by simpa [look_cons] using h11) (hkp hk (by decide)) (by simpa [look_cons] using h88) (by simpa [look_cons] using h85) (by simpa [look_cons] using h86) hv (by simpa [look_cons] using h87) (by simp [look_cons])
theorem dD0111 {env:Env} {vq w:PV} {Q:Exit→Env→Heap→Prop} {env0:Env} {τ:Heap} {b x10 x11 ver k:Nat} {ws:List PV} {L:List Met} {X Y u v:Int} {l:List Int} (C:DX Q env0 τ ver ws L b x10 x11 w l X Y u v k vq) (h82:Kv.look env 82=vq) (h8:Kv.look env 8 = .ptr b 0) (h10:Kv.look env 10 = .ptr x10 0) (h11:Kv.look env 11 = .ptr x11 0) (hk:∀ t∈[2,3,7,8,56,57],Kv.look env t=Kv.look env0 t) (h88:Kv.look env 88 = .int .i64 k) (h84:Kv.look env 84 = .int .i64 Y) (h85:Kv.look env 85 = .ptr b 2) (h89:Kv.look env 89 = .list [.int .i64 k]):vT Tryz.prog tD0111 Q env τ:=by
 unfold tD0111
 have G:=C.at0
 rw [vT_alt]; refine ⟨?_,?_⟩
 ·rw [vT_op]
  simp only [h10,G.2.1,OpK_eq,HKv,go_sem]
  exact dD1111 C (by simpa [look_cons] using h82) (by simpa [look_cons] using h8) (by simpa [look_cons] using h10) (by simpa [look_cons] using h11) (hkp hk (by decide)) (by simpa [look_cons] using h88) (by simp [look_cons]) (by simpa [look_cons] using h84) (by simpa [look_cons] using h85) (by simpa [look_cons] using h89)
 rw [vT_op]
 simp only [h85,G.1,OpK_eq,HKv,go_sem]
 exact dD0121 C (by simpa [look_cons] using h82) (by simpa [look_cons] using h8) (by simpa [look_cons] using h10) (by simpa [look_cons] using h11) (hkp hk (by decide)) (by simpa [look_cons] using h88) (by simpa [look_cons] using h84) (by simpa [look_cons] using h85) (by simp [look_cons]) (by simpa [look_cons] using h89)
theorem dD0120 {env:Env} {vq w:PV} {Q:Exit→Env→Heap→Prop} {env0:Env} {τ:Heap} {b x10 x11 ver k:Nat} {ws:List PV} {L:List Met} {X Y u v:Int} {l:List Int} (C:DX Q env0 τ ver ws L b x10 x11 w l X Y u v k vq) (h82:Kv.look env 82=vq) (h8:Kv.look env 8 = .ptr b 0) (h10:Kv.look env 10 = .ptr x10 0) (h11:Kv.look env 11 = .ptr x11 0) (hk:∀ t∈[2,3,7,8,56,57],Kv.look env t=Kv.look env0 t) (h88:Kv.look env 88 = .int .i64 k) (h84:Kv.look env 84 = .int .i64 Y) (h85:Kv.look env 85 = .ptr b 2) (h86:Kv.look env 86=w):vT Tryz.prog tD0120 Q env τ:=by
 unfold tD0120
 have G:=C.at0
 rw [vT_alt]; refine ⟨?_,?_⟩
 ·rw [vT_op]
  simp only [h10,G.2.1,OpK_eq,HKv,go_sem]
  exact dD1120 C (by simpa [look_cons] using h82) (by simpa [look_cons] using h8) (by simpa [look_cons] using h10) (by simpa [look_cons] using h11) (hkp hk (by decide)) (by simpa [look_cons] using h88) (by simp [look_cons]) (by simpa [look_cons] using h84) (by simpa [look_cons] using h85) (by simpa [look_cons] using h86)
 rw [vT_alt]; refine ⟨?_,?_⟩
 ·rw [vT_op]
  simp only [h86,go_sem]
  refine C.clone fun v5 ρ hv=>?_
  simp only [OpK_eq,go_sem]
  exact dD0130 C (by simpa [look_cons] using h82) (by simpa [look_cons] using h8) (by simpa [look_cons] using h10) (by simpa [look_cons] using h11) (hkp hk (by decide)) (by simpa [look_cons] using h88) (by simpa [look_cons] using h84) (by simpa [look_cons] using h85) (by simpa [look_cons] using h86) hv (by simp [look_cons])
 rw [vT_op]
 simp only [h88,OpK_eq,go_sem]
 exact dD0121 C (by simpa [look_cons] using h82) (by simpa [look_cons] using h8) (by simpa [look_cons] using h10) (by simpa [look_cons] using h11) (hkp hk (by decide)) (by simpa [look_cons] using h88) (by simpa [look_cons] using h84) (by simpa [look_cons] using h85) (by simpa [look_cons] using h86) (by simp [look_cons])
theorem dD1011 {env:Env} {vq w:PV} {Q:Exit→Env→Heap→Prop} {env0:Env} {τ:Heap} {b x10 x11 ver k:Nat} {ws:List PV} {L:List Met} {X Y u v:Int} {l:List Int} (C:DX Q env0 τ ver ws L b x10 x11 w l X Y u v k vq) (h82:Kv.look env 82=vq) (h8:Kv.look env 8 = .ptr b 0) (h10:Kv.look env 10 = .ptr x10 0) (h11:Kv.look env 11 = .ptr x11 0) (hk:∀ t∈[2,3,7,8,56,57],Kv.look env t=Kv.look env0 t) (h88:Kv.look env 88 = .int .i64 k) (h83:Kv.look env 83 = .int .i64 X) (h85:Kv.look env 85 = .ptr b 2) (h89:Kv.look env 89 = .list [.int .i64 k]):vT Tryz.prog tD1011 Q env τ:=by
 unfold tD1011
 have G:=C.at0
 rw [vT_alt]; refine ⟨?_,?_⟩
 ·rw [vT_op]
  simp only [h11,G.2.2,OpK_eq,HKv,go_sem]
  exact dD1111 C (by simpa [look_cons] using h82) (by simpa [look_cons] using h8) (by simpa [look_cons] using h10) (by simpa [look_cons] using h11) (hkp hk (by decide)) (by simpa [look_cons] using h88) (by simpa [look_cons] using h83) (by simp [look_cons]) (by simpa [look_cons] using h85) (by simpa [look_cons] using h89)
 rw [vT_op]
 simp only [h85,G.1,OpK_eq,HKv,go_sem]
 exact dD1021 C (by simpa [look_cons] using h82) (by simpa [look_cons] using h8) (by simpa [look_cons] using h10) (by simpa [look_cons] using h11) (hkp hk (by decide)) (by simpa [look_cons] using h88) (by simpa [look_cons] using h83) (by simpa [look_cons] using h85) (by simp [look_cons]) (by simpa [look_cons] using h89)
theorem dD1020 {env:Env} {vq w:PV} {Q:Exit→Env→Heap→Prop} {env0:Env} {τ:Heap} {b x10 x11 ver k:Nat} {ws:List PV} {L:List Met} {X Y u v:Int} {l:List Int} (C:DX Q env0 τ ver ws L b x10 x11 w l X Y u v k vq) (h82:Kv.look env 82=vq) (h8:Kv.look env 8 = .ptr b 0) (h10:Kv.look env 10 = .ptr x10 0) (h11:Kv.look env 11 = .ptr x11 0) (hk:∀ t∈[2,3,7,8,56,57],Kv.look env t=Kv.look env0 t) (h88:Kv.look env 88 = .int .i64 k) (h83:Kv.look env 83 = .int .i64 X) (h85:Kv.look env 85 = .ptr b 2) (h86:Kv.look env 86=w):vT Tryz.prog tD1020 Q env τ:=by
 unfold tD1020
 have G:=C.at0
 rw [vT_alt]; refine ⟨?_,?_⟩
 ·rw [vT_op]
  simp only [h11,G.2.2,OpK_eq,HKv,go_sem]
  exact dD1120 C (by simpa [look_cons] using h82) (by simpa [look_cons] using h8) (by simpa [look_cons] using h10) (by simpa [look_cons] using h11) (hkp hk (by decide)) (by simpa [look_cons] using h88) (by simpa [look_cons] using h83) (by simp [look_cons]) (by simpa [look_cons] using h85) (by simpa [look_cons] using h86)
 rw [vT_alt]; refine ⟨?_,?_⟩
 ·rw [vT_op]
  simp only [h86,go_sem]
  refine C.clone fun v5 ρ hv=>?_
  simp only [OpK_eq,go_sem]
  exact dD1030 C (by simpa [look_cons] using h82) (by simpa [look_cons] using h8) (by simpa [look_cons] using h10) (by simpa [look_cons] using h11) (hkp hk (by decide)) (by simpa [look_cons] using h88) (by simpa [look_cons] using h83) (by simpa [look_cons] using h85) (by simpa [look_cons] using h86) hv (by simp [look_cons])
 rw [vT_op]
 simp only [h88,OpK_eq,go_sem]
 exact dD1021 C (by simpa [look_cons] using h82) (by simpa [look_cons] using h8) (by simpa [look_cons] using h10) (by simpa [look_cons] using h11) (hkp hk (by decide)) (by simpa [look_cons] using h88) (by simpa [look_cons] using h83) (by simpa [look_cons] using h85) (by simpa [look_cons] using h86) (by simp [look_cons])
theorem dD1101 {env:Env} {vq w:PV} {Q:Exit→Env→Heap→Prop} {env0:Env} {τ:Heap} {b x10 x11 ver k:Nat} {ws:List PV} {L:List Met} {X Y u v:Int} {l:List Int} (C:DX Q env0 τ ver ws L b x10 x11 w l X Y u v k vq) (h82:Kv.look env 82=vq) (h8:Kv.look env 8 = .ptr b 0) (h10:Kv.look env 10 = .ptr x10 0) (h11:Kv.look env 11 = .ptr x11 0) (hk:∀ t∈[2,3,7,8,56,57],Kv.look env t=Kv.look env0 t) (h88:Kv.look env 88 = .int .i64 k) (h83:Kv.look env 83 = .int .i64 X) (h84:Kv.look env 84 = .int .i64 Y) (h89:Kv.look env 89 = .list [.int .i64 k]):vT Tryz.prog tD1101 Q env τ:=by
 unfold tD1101
 have G:=C.at0
 rw [vT_op]
 simp only [h8,G.1,OpK_eq,go_sem]
 exact dD1111 C (by simpa [look_cons] using h82) (by simpa [look_cons] using h8) (by simpa [look_cons] using h10) (by simpa [look_cons] using h11) (hkp hk (by decide)) (by simpa [look_cons] using h88) (by simpa [look_cons] using h83) (by simpa [look_cons] using h84) (by simp [look_cons]) (by simpa [look_cons] using h89)
theorem dD1110 {env:Env} {vq w:PV} {Q:Exit→Env→Heap→Prop} {env0:Env} {τ:Heap} {b x10 x11 ver k:Nat} {ws:List PV} {L:List Met} {X Y u v:Int} {l:List Int} (C:DX Q env0 τ ver ws L b x10 x11 w l X Y u v k vq) (h82:Kv.look env 82=vq) (h8:Kv.look env 8 = .ptr b 0) (h10:Kv.look env 10 = .ptr x10 0) (h11:Kv.look env 11 = .ptr x11 0) (hk:∀ t∈[2,3,7,8,56,57],Kv.look env t=Kv.look env0 t) (h88:Kv.look env 88 = .int .i64 k) (h83:Kv.look env 83 = .int .i64 X) (h84:Kv.look env 84 = .int .i64 Y) (h85:Kv.look env 85 = .ptr b 2):vT Tryz.prog tD1110 Q env τ:=by
 unfold tD1110
 have G:=C.at0
 rw [vT_alt]; refine ⟨?_,?_⟩
 ·rw [vT_op]
  simp only [h85,G.1,OpK_eq,HKv,go_sem]
  exact dD1120 C (by simpa [look_cons] using h82) (by simpa [look_cons] using h8) (by simpa [look_cons] using h10) (by simpa [look_cons] using h11) (hkp hk (by decide)) (by simpa [look_cons] using h88) (by simpa [look_cons] using h83) (by simpa [look_cons] using h84) (by simpa [look_cons] using h85) (by simp [look_cons])
 rw [vT_op]
 simp only [h88,OpK_eq,go_sem]
 exact dD1111 C (by simpa [look_cons] using h82) (by simpa [look_cons] using h8) (by simpa [look_cons] using h10) (by simpa [look_cons] using h11) (hkp hk (by decide)) (by simpa [look_cons] using h88) (by simpa [look_cons] using h83) (by simpa [look_cons] using h84) (by simpa [look_cons] using h85) (by simp [look_cons])
theorem dD0011 {env:Env} {vq w:PV} {Q:Exit→Env→Heap→Prop} {env0:Env} {τ:Heap} {b x10 x11 ver k:Nat} {ws:List PV} {L:List Met} {X Y u v:Int} {l:List Int} (C:DX Q env0 τ ver ws L b x10 x11 w l X Y u v k vq) (h82:Kv.look env 82=vq) (h8:Kv.look env 8 = .ptr b 0) (h10:Kv.look env 10 = .ptr x10 0) (h11:Kv.look env 11 = .ptr x11 0) (hk:∀ t∈[2,3,7,8,56,57],Kv.look env t=Kv.look env0 t) (h88:Kv.look env 88 = .int .i64 k) (h85:Kv.look env 85 = .ptr b 2) (h89:Kv.look env 89 = .list [.int .i64 k]):vT Tryz.prog tD0011 Q env τ:=by
 unfold tD0011
 have G:=C.at0
 rw [vT_alt]; refine ⟨?_,?_⟩
 ·rw [vT_op]
  simp only [h10,G.2.1,OpK_eq,HKv,go_sem]
  exact dD1011 C (by simpa [look_cons] using h82) (by simpa [look_cons] using h8) (by simpa [look_cons] using h10) (by simpa [look_cons] using h11) (hkp hk (by decide)) (by simpa [look_cons] using h88) (by simp [look_cons]) (by simpa [look_cons] using h85) (by simpa [look_cons] using h89)
 rw [vT_alt]; refine ⟨?_,?_⟩
 ·rw [vT_op]
  simp only [h11,G.2.2,OpK_eq,HKv,go_sem]
  exact dD0111 C (by simpa [look_cons] using h82) (by simpa [look_cons] using h8) (by simpa [look_cons] using h10) (by simpa [look_cons] using h11) (hkp hk (by decide)) (by simpa [look_cons] using h88) (by simp [look_cons]) (by simpa [look_cons] using h85) (by simpa [look_cons] using h89)
 rw [vT_op]
 simp only [h85,G.1,OpK_eq,HKv,go_sem]
 exact dD0021 C (by simpa [look_cons] using h82) (by simpa [look_cons] using h8) (by simpa [look_cons] using h10) (by simpa [look_cons] using h11) (hkp hk (by decide)) (by simpa [look_cons] using h88) (by simpa [look_cons] using h85) (by simp [look_cons]) (by simpa [look_cons] using h89)
theorem dD0020 {env:Env} {vq w:PV} {Q:Exit→Env→Heap→Prop} {env0:Env} {τ:Heap} {b x10 x11 ver k:Nat} {ws:List PV} {L:List Met} {X Y u v:Int} {l:List Int} (C:DX Q env0 τ ver ws L b x10 x11 w l X Y u v k vq) (h82:Kv.look env 82=vq) (h8:Kv.look env 8 = .ptr b 0) (h10:Kv.look env 10 = .ptr x10 0) (h11:Kv.look env 11 = .ptr x11 0) (hk:∀ t∈[2,3,7,8,56,57],Kv.look env t=Kv.look env0 t) (h88:Kv.look env 88 = .int .i64 k) (h85:Kv.look env 85 = .ptr b 2) (h86:Kv.look env 86=w):vT Tryz.prog tD0020 Q env τ:=by
 unfold tD0020
 have G:=C.at0
 rw [vT_alt]; refine ⟨?_,?_⟩
 ·rw [vT_op]
  simp only [h10,G.2.1,OpK_eq,HKv,go_sem]
  exact dD1020 C (by simpa [look_cons] using h82) (by simpa [look_cons] using h8) (by simpa [look_cons] using h10) (by simpa [look_cons] using h11) (hkp hk (by decide)) (by simpa [look_cons] using h88) (by simp [look_cons]) (by simpa [look_cons] using h85) (by simpa [look_cons] using h86)
 rw [vT_alt]; refine ⟨?_,?_⟩
 ·rw [vT_op]
  simp only [h11,G.2.2,OpK_eq,HKv,go_sem]
  exact dD0120 C (by simpa [look_cons] using h82) (by simpa [look_cons] using h8) (by simpa [look_cons] using h10) (by simpa [look_cons] using h11) (hkp hk (by decide)) (by simpa [look_cons] using h88) (by simp [look_cons]) (by simpa [look_cons] using h85) (by simpa [look_cons] using h86)
 rw [vT_alt]; refine ⟨?_,?_⟩
 ·rw [vT_op]
  simp only [h86,go_sem]
  refine C.clone fun v5 ρ hv=>?_
  simp only [OpK_eq,go_sem]
  exact dD0030 C (by simpa [look_cons] using h82) (by simpa [look_cons] using h8) (by simpa [look_cons] using h10) (by simpa [look_cons] using h11) (hkp hk (by decide)) (by simpa [look_cons] using h88) (by simpa [look_cons] using h85) (by simpa [look_cons] using h86) hv (by simp [look_cons])
 rw [vT_op]
 simp only [h88,OpK_eq,go_sem]
 exact dD0021 C (by simpa [look_cons] using h82) (by simpa [look_cons] using h8) (by simpa [look_cons] using h10) (by simpa [look_cons] using h11) (hkp hk (by decide)) (by simpa [look_cons] using h88) (by simpa [look_cons] using h85) (by simpa [look_cons] using h86) (by simp [look_cons])
theorem dD0101 {env:Env} {vq w:PV} {Q:Exit→Env→Heap→Prop} {env0:Env} {τ:Heap} {b x10 x11 ver k:Nat} {ws:List PV} {L:List Met} {X Y u v:Int} {l:List Int} (C:DX Q env0 τ ver ws L b x10 x11 w l X Y u v k vq) (h82:Kv.look env 82=vq) (h8:Kv.look env 8 = .ptr b 0) (h10:Kv.look env 10 = .ptr x10 0) (h11:Kv.look env 11 = .ptr x11 0) (hk:∀ t∈[2,3,7,8,56,57],Kv.look env t=Kv.look env0 t) (h88:Kv.look env 88 = .int .i64 k) (h84:Kv.look env 84 = .int .i64 Y) (h89:Kv.look env 89 = .list [.int .i64 k]):vT Tryz.prog tD0101 Q env τ:=by
 unfold tD0101
 have G:=C.at0
 rw [vT_alt]; refine ⟨?_,?_⟩
 ·rw [vT_op]
  simp only [h10,G.2.1,OpK_eq,HKv,go_sem]
  exact dD1101 C (by simpa [look_cons] using h82) (by simpa [look_cons] using h8) (by simpa [look_cons] using h10) (by simpa [look_cons] using h11) (hkp hk (by decide)) (by simpa [look_cons] using h88) (by simp [look_cons]) (by simpa [look_cons] using h84) (by simpa [look_cons] using h89)
 rw [vT_op]
 simp only [h8,G.1,OpK_eq,go_sem]
 exact dD0111 C (by simpa [look_cons] using h82) (by simpa [look_cons] using h8) (by simpa [look_cons] using h10) (by simpa [look_cons] using h11) (hkp hk (by decide)) (by simpa [look_cons] using h88) (by simpa [look_cons] using h84) (by simp [look_cons]) (by simpa [look_cons] using h89)
theorem dD0110 {env:Env} {vq w:PV} {Q:Exit→Env→Heap→Prop} {env0:Env} {τ:Heap} {b x10 x11 ver k:Nat} {ws:List PV} {L:List Met} {X Y u v:Int} {l:List Int} (C:DX Q env0 τ ver ws L b x10 x11 w l X Y u v k vq) (h82:Kv.look env 82=vq) (h8:Kv.look env 8 = .ptr b 0) (h10:Kv.look env 10 = .ptr x10 0) (h11:Kv.look env 11 = .ptr x11 0) (hk:∀ t∈[2,3,7,8,56,57],Kv.look env t=Kv.look env0 t) (h88:Kv.look env 88 = .int .i64 k) (h84:Kv.look env 84 = .int .i64 Y) (h85:Kv.look env 85 = .ptr b 2):vT Tryz.prog tD0110 Q env τ:=by
 unfold tD0110
 have G:=C.at0
 rw [vT_alt]; refine ⟨?_,?_⟩
 ·rw [vT_op]
  simp only [h10,G.2.1,OpK_eq,HKv,go_sem]
  exact dD1110 C (by simpa [look_cons] using h82) (by simpa [look_cons] using h8) (by simpa [look_cons] using h10) (by simpa [look_cons] using h11) (hkp hk (by decide)) (by simpa [look_cons] using h88) (by simp [look_cons]) (by simpa [look_cons] using h84) (by simpa [look_cons] using h85)
 rw [vT_alt]; refine ⟨?_,?_⟩
 ·rw [vT_op]
  simp only [h85,G.1,OpK_eq,HKv,go_sem]
  exact dD0120 C (by simpa [look_cons] using h82) (by simpa [look_cons] using h8) (by simpa [look_cons] using h10) (by simpa [look_cons] using h11) (hkp hk (by decide)) (by simpa [look_cons] using h88) (by simpa [look_cons] using h84) (by simpa [look_cons] using h85) (by simp [look_cons])
 rw [vT_op]
 simp only [h88,OpK_eq,go_sem]
 exact dD0111 C (by simpa [look_cons] using h82) (by simpa [look_cons] using h8) (by simpa [look_cons] using h10) (by simpa [look_cons] using h11) (hkp hk (by decide)) (by simpa [look_cons] using h88) (by simpa [look_cons] using h84) (by simpa [look_cons] using h85) (by simp [look_cons])
theorem dD1001 {env:Env} {vq w:PV} {Q:Exit→Env→Heap→Prop} {env0:Env} {τ:Heap} {b x10 x11 ver k:Nat} {ws:List PV} {L:List Met} {X Y u v:Int} {l:List Int} (C:DX Q env0 τ ver ws L b x10 x11 w l X Y u v k vq) (h82:Kv.look env 82=vq) (h8:Kv.look env 8 = .ptr b 0) (h10:Kv.look env 10 = .ptr x10 0) (h11:Kv.look env 11 = .ptr x11 0) (hk:∀ t∈[2,3,7,8,56,57],Kv.look env t=Kv.look env0 t) (h88:Kv.look env 88 = .int .i64 k) (h83:Kv.look env 83 = .int .i64 X) (h89:Kv.look env 89 = .list [.int .i64 k]):vT Tryz.prog tD1001 Q env τ:=by
 unfold tD1001
 have G:=C.at0
 rw [vT_alt]; refine ⟨?_,?_⟩
 ·rw [vT_op]
  simp only [h11,G.2.2,OpK_eq,HKv,go_sem]
  exact dD1101 C (by simpa [look_cons] using h82) (by simpa [look_cons] using h8) (by simpa [look_cons] using h10) (by simpa [look_cons] using h11) (hkp hk (by decide)) (by simpa [look_cons] using h88) (by simpa [look_cons] using h83) (by simp [look_cons]) (by simpa [look_cons] using h89)
 rw [vT_op]
 simp only [h8,G.1,OpK_eq,go_sem]
 exact dD1011 C (by simpa [look_cons] using h82) (by simpa [look_cons] using h8) (by simpa [look_cons] using h10) (by simpa [look_cons] using h11) (hkp hk (by decide)) (by simpa [look_cons] using h88) (by simpa [look_cons] using h83) (by simp [look_cons]) (by simpa [look_cons] using h89)
theorem dD1010 {env:Env} {vq w:PV} {Q:Exit→Env→Heap→Prop} {env0:Env} {τ:Heap} {b x10 x11 ver k:Nat} {ws:List PV} {L:List Met} {X Y u v:Int} {l:List Int} (C:DX Q env0 τ ver ws L b x10 x11 w l X Y u v k vq) (h82:Kv.look env 82=vq) (h8:Kv.look env 8 = .ptr b 0) (h10:Kv.look env 10 = .ptr x10 0) (h11:Kv.look env 11 = .ptr x11 0) (hk:∀ t∈[2,3,7,8,56,57],Kv.look env t=Kv.look env0 t) (h88:Kv.look env 88 = .int .i64 k) (h83:Kv.look env 83 = .int .i64 X) (h85:Kv.look env 85 = .ptr b 2):vT Tryz.prog tD1010 Q env τ:=by
 unfold tD1010
 have G:=C.at0
 rw [vT_alt]; refine ⟨?_,?_⟩
 ·rw [vT_op]
  simp only [h11,G.2.2,OpK_eq,HKv,go_sem]
  exact dD1110 C (by simpa [look_cons] using h82) (by simpa [look_cons] using h8) (by simpa [look_cons] using h10) (by simpa [look_cons] using h11) (hkp hk (by decide)) (by simpa [look_cons] using h88) (by simpa [look_cons] using h83) (by simp [look_cons]) (by simpa [look_cons] using h85)
 rw [vT_alt]; refine ⟨?_,?_⟩
 ·rw [vT_op]
  simp only [h85,G.1,OpK_eq,HKv,go_sem]
  exact dD1020 C (by simpa [look_cons] using h82) (by simpa [look_cons] using h8) (by simpa [look_cons] using h10) (by simpa [look_cons] using h11) (hkp hk (by decide)) (by simpa [look_cons] using h88) (by simpa [look_cons] using h83) (by simpa [look_cons] using h85) (by simp [look_cons])
 rw [vT_op]
 simp only [h88,OpK_eq,go_sem]
 exact dD1011 C (by simpa [look_cons] using h82) (by simpa [look_cons] using h8) (by simpa [look_cons] using h10) (by simpa [look_cons] using h11) (hkp hk (by decide)) (by simpa [look_cons] using h88) (by simpa [look_cons] using h83) (by simpa [look_cons] using h85) (by simp [look_cons])
theorem dD1100 {env:Env} {vq w:PV} {Q:Exit→Env→Heap→Prop} {env0:Env} {τ:Heap} {b x10 x11 ver k:Nat} {ws:List PV} {L:List Met} {X Y u v:Int} {l:List Int} (C:DX Q env0 τ ver ws L b x10 x11 w l X Y u v k vq) (h82:Kv.look env 82=vq) (h8:Kv.look env 8 = .ptr b 0) (h10:Kv.look env 10 = .ptr x10 0) (h11:Kv.look env 11 = .ptr x11 0) (hk:∀ t∈[2,3,7,8,56,57],Kv.look env t=Kv.look env0 t) (h88:Kv.look env 88 = .int .i64 k) (h83:Kv.look env 83 = .int .i64 X) (h84:Kv.look env 84 = .int .i64 Y):vT Tryz.prog tD1100 Q env τ:=by
 unfold tD1100
 have G:=C.at0
 rw [vT_alt]; refine ⟨?_,?_⟩
 ·rw [vT_op]
  simp only [h8,G.1,OpK_eq,go_sem]
  exact dD1110 C (by simpa [look_cons] using h82) (by simpa [look_cons] using h8) (by simpa [look_cons] using h10) (by simpa [look_cons] using h11) (hkp hk (by decide)) (by simpa [look_cons] using h88) (by simpa [look_cons] using h83) (by simpa [look_cons] using h84) (by simp [look_cons])
 rw [vT_op]
 simp only [h88,OpK_eq,go_sem]
 exact dD1101 C (by simpa [look_cons] using h82) (by simpa [look_cons] using h8) (by simpa [look_cons] using h10) (by simpa [look_cons] using h11) (hkp hk (by decide)) (by simpa [look_cons] using h88) (by simpa [look_cons] using h83) (by simpa [look_cons] using h84) (by simp [look_cons])
theorem dD0001 {env:Env} {vq w:PV} {Q:Exit→Env→Heap→Prop} {env0:Env} {τ:Heap} {b x10 x11 ver k:Nat} {ws:List PV} {L:List Met} {X Y u v:Int} {l:List Int} (C:DX Q env0 τ ver ws L b x10 x11 w l X Y u v k vq) (h82:Kv.look env 82=vq) (h8:Kv.look env 8 = .ptr b 0) (h10:Kv.look env 10 = .ptr x10 0) (h11:Kv.look env 11 = .ptr x11 0) (hk:∀ t∈[2,3,7,8,56,57],Kv.look env t=Kv.look env0 t) (h88:Kv.look env 88 = .int .i64 k) (h89:Kv.look env 89 = .list [.int .i64 k]):vT Tryz.prog tD0001 Q env τ:=by
 unfold tD0001
 have G:=C.at0
 rw [vT_alt]; refine ⟨?_,?_⟩
 ·rw [vT_op]
  simp only [h10,G.2.1,OpK_eq,HKv,go_sem]
  exact dD1001 C (by simpa [look_cons] using h82) (by simpa [look_cons] using h8) (by simpa [look_cons] using h10) (by simpa [look_cons] using h11) (hkp hk (by decide)) (by simpa [look_cons] using h88) (by simp [look_cons]) (by simpa [look_cons] using h89)
 rw [vT_alt]; refine ⟨?_,?_⟩
 ·rw [vT_op]
  simp only [h11,G.2.2,OpK_eq,HKv,go_sem]
  exact dD0101 C (by simpa [look_cons] using h82) (by simpa [look_cons] using h8) (by simpa [look_cons] using h10) (by simpa [look_cons] using h11) (hkp hk (by decide)) (by simpa [look_cons] using h88) (by simp [look_cons]) (by simpa [look_cons] using h89)
 rw [vT_op]
 simp only [h8,G.1,OpK_eq,go_sem]
 exact dD0011 C (by simpa [look_cons] using h82) (by simpa [look_cons] using h8) (by simpa [look_cons] using h10) (by simpa [look_cons] using h11) (hkp hk (by decide)) (by simpa [look_cons] using h88) (by simp [look_cons]) (by simpa [look_cons] using h89)
theorem dD0010 {env:Env} {vq w:PV} {Q:Exit→Env→Heap→Prop} {env0:Env} {τ:Heap} {b x10 x11 ver k:Nat} {ws:List PV} {L:List Met} {X Y u v:Int} {l:List Int} (C:DX Q env0 τ ver ws L b x10 x11 w l X Y u v k vq) (h82:Kv.look env 82=vq) (h8:Kv.look env 8 = .ptr b 0) (h10:Kv.look env 10 = .ptr x10 0) (h11:Kv.look env 11 = .ptr x11 0) (hk:∀ t∈[2,3,7,8,56,57],Kv.look env t=Kv.look env0 t) (h88:Kv.look env 88 = .int .i64 k) (h85:Kv.look env 85 = .ptr b 2):vT Tryz.prog tD0010 Q env τ:=by
 unfold tD0010
 have G:=C.at0
 rw [vT_alt]; refine ⟨?_,?_⟩
 ·rw [vT_op]
  simp only [h10,G.2.1,OpK_eq,HKv,go_sem]
  exact dD1010 C (by simpa [look_cons] using h82) (by simpa [look_cons] using h8) (by simpa [look_cons] using h10) (by simpa [look_cons] using h11) (hkp hk (by decide)) (by simpa [look_cons] using h88) (by simp [look_cons]) (by simpa [look_cons] using h85)
 rw [vT_alt]; refine ⟨?_,?_⟩
 ·rw [vT_op]
  simp only [h11,G.2.2,OpK_eq,HKv,go_sem]
  exact dD0110 C (by simpa [look_cons] using h82) (by simpa [look_cons] using h8) (by simpa [look_cons] using h10) (by simpa [look_cons] using h11) (hkp hk (by decide)) (by simpa [look_cons] using h88) (by simp [look_cons]) (by simpa [look_cons] using h85)
 rw [vT_alt]; refine ⟨?_,?_⟩
 ·rw [vT_op]
  simp only [h85,G.1,OpK_eq,HKv,go_sem]
  exact dD0020 C (by simpa [look_cons] using h82) (by simpa [look_cons] using h8) (by simpa [look_cons] using h10) (by simpa [look_cons] using h11) (hkp hk (by decide)) (by simpa [look_cons] using h88) (by simpa [look_cons] using h85) (by simp [look_cons])
 rw [vT_op]
 simp only [h88,OpK_eq,go_sem]
 exact dD0011 C (by simpa [look_cons] using h82) (by simpa [look_cons] using h8) (by simpa [look_cons] using h10) (by simpa [look_cons] using h11) (hkp hk (by decide)) (by simpa [look_cons] using h88) (by simpa [look_cons] using h85) (by simp [look_cons])
theorem dD0100 {env:Env} {vq w:PV} {Q:Exit→Env→Heap→Prop} {env0:Env} {τ:Heap} {b x10 x11 ver k:Nat} {ws:List PV} {L:List Met} {X Y u v:Int} {l:List Int} (C:DX Q env0 τ ver ws L b x10 x11 w l X Y u v k vq) (h82:Kv.look env 82=vq) (h8:Kv.look env 8 = .ptr b 0) (h10:Kv.look env 10 = .ptr x10 0) (h11:Kv.look env 11 = .ptr x11 0) (hk:∀ t∈[2,3,7,8,56,57],Kv.look env t=Kv.look env0 t) (h88:Kv.look env 88 = .int .i64 k) (h84:Kv.look env 84 = .int .i64 Y):vT Tryz.prog tD0100 Q env τ:=by
 unfold tD0100
 have G:=C.at0
 rw [vT_alt]; refine ⟨?_,?_⟩
 ·rw [vT_op]
  simp only [h10,G.2.1,OpK_eq,HKv,go_sem]
  exact dD1100 C (by simpa [look_cons] using h82) (by simpa [look_cons] using h8) (by simpa [look_cons] using h10) (by simpa [look_cons] using h11) (hkp hk (by decide)) (by simpa [look_cons] using h88) (by simp [look_cons]) (by simpa [look_cons] using h84)
 rw [vT_alt]; refine ⟨?_,?_⟩
 ·rw [vT_op]
  simp only [h8,G.1,OpK_eq,go_sem]
  exact dD0110 C (by simpa [look_cons] using h82) (by simpa [look_cons] using h8) (by simpa [look_cons] using h10) (by simpa [look_cons] using h11) (hkp hk (by decide)) (by simpa [look_cons] using h88) (by simpa [look_cons] using h84) (by simp [look_cons])
 rw [vT_op]
 simp only [h88,OpK_eq,go_sem]
 exact dD0101 C (by simpa [look_cons] using h82) (by simpa [look_cons] using h8) (by simpa [look_cons] using h10) (by simpa [look_cons] using h11) (hkp hk (by decide)) (by simpa [look_cons] using h88) (by simpa [look_cons] using h84) (by simp [look_cons])
theorem dD1000 {env:Env} {vq w:PV} {Q:Exit→Env→Heap→Prop} {env0:Env} {τ:Heap} {b x10 x11 ver k:Nat} {ws:List PV} {L:List Met} {X Y u v:Int} {l:List Int} (C:DX Q env0 τ ver ws L b x10 x11 w l X Y u v k vq) (h82:Kv.look env 82=vq) (h8:Kv.look env 8 = .ptr b 0) (h10:Kv.look env 10 = .ptr x10 0) (h11:Kv.look env 11 = .ptr x11 0) (hk:∀ t∈[2,3,7,8,56,57],Kv.look env t=Kv.look env0 t) (h88:Kv.look env 88 = .int .i64 k) (h83:Kv.look env 83 = .int .i64 X):vT Tryz.prog tD1000 Q env τ:=by
 unfold tD1000
 have G:=C.at0
 rw [vT_alt]; refine ⟨?_,?_⟩
 ·rw [vT_op]
  simp only [h11,G.2.2,OpK_eq,HKv,go_sem]
  exact dD1100 C (by simpa [look_cons] using h82) (by simpa [look_cons] using h8) (by simpa [look_cons] using h10) (by simpa [look_cons] using h11) (hkp hk (by decide)) (by simpa [look_cons] using h88) (by simpa [look_cons] using h83) (by simp [look_cons])
 rw [vT_alt]; refine ⟨?_,?_⟩
 ·rw [vT_op]
  simp only [h8,G.1,OpK_eq,go_sem]
  exact dD1010 C (by simpa [look_cons] using h82) (by simpa [look_cons] using h8) (by simpa [look_cons] using h10) (by simpa [look_cons] using h11) (hkp hk (by decide)) (by simpa [look_cons] using h88) (by simpa [look_cons] using h83) (by simp [look_cons])
 rw [vT_op]
 simp only [h88,OpK_eq,go_sem]
 exact dD1001 C (by simpa [look_cons] using h82) (by simpa [look_cons] using h8) (by simpa [look_cons] using h10) (by simpa [look_cons] using h11) (hkp hk (by decide)) (by simpa [look_cons] using h88) (by simpa [look_cons] using h83) (by simp [look_cons])
theorem dD0000 {env:Env} {vq w:PV} {Q:Exit→Env→Heap→Prop} {env0:Env} {τ:Heap} {b x10 x11 ver k:Nat} {ws:List PV} {L:List Met} {X Y u v:Int} {l:List Int} (C:DX Q env0 τ ver ws L b x10 x11 w l X Y u v k vq) (h82:Kv.look env 82=vq) (h8:Kv.look env 8 = .ptr b 0) (h10:Kv.look env 10 = .ptr x10 0) (h11:Kv.look env 11 = .ptr x11 0) (hk:∀ t∈[2,3,7,8,56,57],Kv.look env t=Kv.look env0 t) (h88:Kv.look env 88 = .int .i64 k):vT Tryz.prog tD0000 Q env τ:=by
 unfold tD0000
 have G:=C.at0
 rw [vT_alt]; refine ⟨?_,?_⟩
 ·rw [vT_op]
  simp only [h10,G.2.1,OpK_eq,HKv,go_sem]
  exact dD1000 C (by simpa [look_cons] using h82) (by simpa [look_cons] using h8) (by simpa [look_cons] using h10) (by simpa [look_cons] using h11) (hkp hk (by decide)) (by simpa [look_cons] using h88) (by simp [look_cons])
 rw [vT_alt]; refine ⟨?_,?_⟩
 ·rw [vT_op]
  simp only [h11,G.2.2,OpK_eq,HKv,go_sem]
  exact dD0100 C (by simpa [look_cons] using h82) (by simpa [look_cons] using h8) (by simpa [look_cons] using h10) (by simpa [look_cons] using h11) (hkp hk (by decide)) (by simpa [look_cons] using h88) (by simp [look_cons])
 rw [vT_alt]; refine ⟨?_,?_⟩
 ·rw [vT_op]
  simp only [h8,G.1,OpK_eq,go_sem]
  exact dD0010 C (by simpa [look_cons] using h82) (by simpa [look_cons] using h8) (by simpa [look_cons] using h10) (by simpa [look_cons] using h11) (hkp hk (by decide)) (by simpa [look_cons] using h88) (by simp [look_cons])
 rw [vT_op]
 simp only [h88,OpK_eq,go_sem]
 exact dD0001 C (by simpa [look_cons] using h82) (by simpa [look_cons] using h8) (by simpa [look_cons] using h10) (by simpa [look_cons] using h11) (hkp hk (by decide)) (by simpa [look_cons] using h88) (by simp [look_cons])
end
end
end
section
section
set_option maxRecDepth 100000
def k44:KC:=(.seq (.ops [oP 2 (.box true (.t 0)),oP 3 (.box true (.t 1)),oP 4 (.mv (iC 0))])
 (.seq (.block 0 (.seq (.ops [oP 6 (.load true 3 (.t 2)),oP 7 (.call (fC 57) [(.t 6)]),oP 8 (.not (.t 7)),mV 9 8,⟨(some 10),some (9,false),.load true 3 (.t 3)⟩,⟨(some 11),some (9,false),.call (fC 57) [(.t 10)]⟩,⟨(some 12),some (9,false),.not (.t 11)⟩,oP 13 (.pick (.t 9) (.c (.bool true)) (.t 12)),mV 5 13])
 (.cond (.t 5) (.seq (.ops [oP 4 (.mv (iC 1))])
 .ret) (.seq (.ops [oP 15 (.fieldA 0 (.t 2)),oP 16 (.load false 1 (.t 15)),oP 17 (.len false (.t 16)),oP 18 (.fieldA 0 (.t 3)),oP 19 (.load false 1 (.t 18)),oP 20 (.len false (.t 19)),oP 21 (.bin .neq (.t 17) (.t 20)),mV 14 21])
 (.cond (.t 14) (.seq (.ops [oP 4 (.mv (iC 5))])
 .ret) .skip)))))
 (.seq (.ops [oP 4 (.mv (iC 0))])
 .ret)))
theorem e44:Ent 44 22 [2,3] [.t 4] k44:=ent Tryz.func44
def k8:KC:=(.seq (.ops [oP 2 (.box true (.t 0)),oP 3 (.box true (.t 1)),oP 4 (.mv (.c (.nils))),oP 5 (.mv (iC 0))])
 (.seq (.seq (.ops [oP 9 (.load true 3 (.t 2)),oP 10 (.load true 3 (.t 3)),oP 11 (.call (fC 44) [(.t 9),(.t 10)]),mV 6 11])
 (.seq (.ops [mV 12 6,oP 13 (.bin .neq (.t 12) (iC 0))])
 (.cond (.t 13) (.seq (.ops [mV 14 6,oP 4 (.mv (.c (.nils))),mV 5 14])
 .ret) .skip)))
 (.seq (.ops [oP 16 (.load true 3 (.t 2)),oP 17 (.load true 3 (.t 3)),oP 18 (.fieldA 1 (.t 2)),oP 19 (.load false 1 (.t 18)),oP 20 (.fieldA 1 (.t 3)),oP 21 (.load false 1 (.t 20)),oP 22 (.call (fC 45) [(.t 16),(.t 17),(.t 19),(.t 21)]),mV 15 22,oP 23 (.extr 0 (.t 15)),oP 24 (.extr 1 (.t 15)),mV 7 23,mV 8 24])
 (.seq (.seq (.ops [mV 25 8,oP 26 (.not (.t 25))])
 (.cond (.t 26) (.seq (.ops [oP 4 (.mv (.c (.nils))),oP 5 (.mv (iC 4))])
 .ret) .skip))
 (.seq (.ops [mV 27 7,mV 4 27,oP 5 (.mv (iC 0))])
 .ret)))))
theorem e8:Ent 8 28 [2,3] [.t 4,.t 5] k8:=ent Tryz.func8
def k10:KC:=(.seq (.ops [oP 2 (.box true (.t 0)),oP 3 (.box true (.t 1)),oP 4 (.mv (.c (.bool false))),oP 5 (.mv (iC 0))])
 (.seq (.seq (.ops [oP 9 (.load true 3 (.t 2)),oP 10 (.load true 3 (.t 3)),oP 11 (.call (fC 44) [(.t 9),(.t 10)]),mV 6 11])
 (.seq (.ops [mV 12 6,oP 13 (.bin .neq (.t 12) (iC 0))])
 (.cond (.t 13) (.seq (.ops [mV 14 6,oP 4 (.mv (.c (.bool false))),mV 5 14])
 .ret) .skip)))
 (.seq (.ops [oP 16 (.load true 3 (.t 2)),oP 17 (.load true 3 (.t 3)),oP 18 (.fieldA 1 (.t 2)),oP 19 (.load false 1 (.t 18)),oP 20 (.fieldA 1 (.t 3)),oP 21 (.load false 1 (.t 20)),oP 22 (.call (fC 45) [(.t 16),(.t 17),(.t 19),(.t 21)]),mV 15 22,oP 23 (.extr 0 (.t 15)),oP 24 (.extr 1 (.t 15)),mV 7 23,mV 8 24])
 (.seq (.ops [mV 25 8,oP 26 (.not (.t 25)),mV 4 26,oP 5 (.mv (iC 0))])
 .ret))))
theorem e10:Ent 10 27 [2,3] [.t 4,.t 5] k10:=ent Tryz.func10
end
section
attribute [local irreducible] ACall PCall KL
def twoC (b1 b2:Bool) (m n:Nat):Int:=if b1=true∧b2=true then (if m=n then 0 else 5) else 1
theorem p44 (M M':List (List Int)) (q q':Int) (L L':List Int) {b1 b2:Bool} (h1:Pure Tryz.prog 57 [acv M q L] (.bool b1)) (h2:Pure Tryz.prog 57 [acv M' q' L'] (.bool b2)):Pure Tryz.prog 44 [acv M q L,acv M' q' L'] (.int .i64 (twoC b1 b2 M.length M'.length)):=by
 cases b1 with
 | false =>
  refine e44 (by simp) fun _ _=>?_
  simp only [k44,argEnv,go_sem]
  try simp only [OpK_eq,HKv,subC3,go_sem]
  refine h1.go ?_
  try simp only [OpK_eq,HKv,subC3,go_sem]
  exact Kv.Fin.still ⟨by simp [twoC],rfl⟩
 | true =>
  cases b2 with
  | false =>
   refine e44 (by simp) fun _ _=>?_
   simp only [k44,argEnv,go_sem]
   try simp only [OpK_eq,HKv,subC3,go_sem]
   refine h1.go ?_
   try simp only [OpK_eq,HKv,subC3,go_sem]
   refine h2.go ?_
   try simp only [OpK_eq,HKv,subC3,go_sem]
   exact Kv.Fin.still ⟨by simp [twoC],rfl⟩
  | true =>
   refine e44 (by simp) fun _ _=>?_
   simp only [k44,argEnv,go_sem]
   try simp only [OpK_eq,HKv,subC3,go_sem]
   refine h1.go ?_
   try simp only [OpK_eq,HKv,subC3,go_sem]
   refine h2.go ?_
   try simp only [OpK_eq,HKv,subC3,go_sem]
   refine ⟨fun h=>Kv.Fin.still ⟨?_,rfl⟩,fun h=>Kv.Fin.still ⟨?_,rfl⟩⟩
   ·unfold twoC
    rw [if_pos (by simp),if_neg (by omega)]
   ·unfold twoC
    rw [if_pos (by simp),if_pos (by omega)]
theorem p8_bad (M M':List (List Int)) (q q':Int) (L L':List Int) {c:Int} (hc:c≠0) (h:Pure Tryz.prog 44 [acv M q L,acv M' q' L'] (.int .i64 c)):Pure Tryz.prog 8 [acv M q L,acv M' q' L'] (.tup [.nils,.int .i64 c]):=by
 refine e8 (by simp) fun _ _=>?_
 simp only [k8,argEnv,go_sem]
 try simp only [OpK_eq,HKv,subC3,go_sem]
 refine h.go ?_
 try simp only [OpK_eq,HKv,subC3,go_sem]
 exact ⟨fun _=>Kv.Fin.still ⟨rfl,rfl⟩,fun h=>absurd h hc⟩
theorem p10_bad (M M':List (List Int)) (q q':Int) (L L':List Int) {c:Int} (hc:c≠0) (h:Pure Tryz.prog 44 [acv M q L,acv M' q' L'] (.int .i64 c)):Pure Tryz.prog 10 [acv M q L,acv M' q' L'] (.tup [.bool false,.int .i64 c]):=by
 refine e10 (by simp) fun _ _=>?_
 simp only [k10,argEnv,go_sem]
 try simp only [OpK_eq,HKv,subC3,go_sem]
 refine h.go ?_
 try simp only [OpK_eq,HKv,subC3,go_sem]
 exact ⟨fun _=>Kv.Fin.still ⟨rfl,rfl⟩,fun h=>absurd h hc⟩
theorem p8_in {fs gs:List (List Nat)} {n m p q:Nat} {la lb:List Nat} (h1:GoodA fs n p la) (h2:GoodA gs m q lb) (hl:fs.length=gs.length):Pure Tryz.prog 8 [gav fs p la,gav gs q lb] (apV (fwp fs gs la lb p q)):=by
 have ht:=p44 (fs.map mp) (gs.map mp) p q (nz la) (nz lb) h1.s h2.s
 rw [twoC,if_pos (by simp),if_pos (by simp [hl])] at ht
 have hap:=p45 fs gs n m h1.ok h2.ok h1.h0 hl (by have:=h1.fl; omega) h1.n5 h2.n5 la lb h1.l5 h2.l5 h1.ll h2.ll p q p q h1.qn h2.qn
 generalize fwp fs gs la lb p q=o at *
 refine e8 (by simp) fun _ _=>?_
 simp only [k8,argEnv,go_sem]
 try simp only [OpK_eq,HKv,subC3,go_sem]
 refine ht.go ?_
 try simp only [OpK_eq,HKv,subC3,go_sem]
 cases o with
 | none =>
  simp only [apV,apW] at hap ⊢
  refine hap.go ?_
  try simp only [OpK_eq,HKv,go_sem]
  exact Kv.Fin.still ⟨rfl,rfl⟩
 | some w =>
  simp only [apV,apW] at hap ⊢
  refine hap.go ?_
  try simp only [OpK_eq,HKv,go_sem]
  exact Kv.Fin.still ⟨rfl,rfl⟩
theorem p10_in {fs gs:List (List Nat)} {n m p q:Nat} {la lb:List Nat} (h1:GoodA fs n p la) (h2:GoodA gs m q lb) (hl:fs.length=gs.length):Pure Tryz.prog 10 [gav fs p la,gav gs q lb] (.tup [.bool (fwp fs gs la lb p q).isNone,.int .i64 0]):=by
 have ht:=p44 (fs.map mp) (gs.map mp) p q (nz la) (nz lb) h1.s h2.s
 rw [twoC,if_pos (by simp),if_pos (by simp [hl])] at ht
 have hap:=p45 fs gs n m h1.ok h2.ok h1.h0 hl (by have:=h1.fl; omega) h1.n5 h2.n5 la lb h1.l5 h2.l5 h1.ll h2.ll p q p q h1.qn h2.qn
 generalize fwp fs gs la lb p q=o at *
 refine e10 (by simp) fun _ _=>?_
 simp only [k10,argEnv,go_sem]
 try simp only [OpK_eq,HKv,subC3,go_sem]
 refine ht.go ?_
 try simp only [OpK_eq,HKv,subC3,go_sem]
 cases o with
 | none =>
  simp only [apW] at hap
  refine hap.go ?_
  try simp only [OpK_eq,HKv,go_sem]
  exact Kv.Fin.still ⟨rfl,rfl⟩
 | some w =>
  simp only [apW] at hap
  refine hap.go ?_
  try simp only [OpK_eq,HKv,go_sem]
  exact Kv.Fin.still ⟨rfl,rfl⟩
end
end
end Go.Proofs.YtcfmmmloeaggmaaGreat
