/- Several texts of this session as one, less what the claim does not need. -/
import Derived.Test.YtcfmmmloeaggmaaGreatCb
import Derived.Test.YtcfmmmloeaggmaaGreatZ9
import Derived.StillTailTactics
import Derived.KernelRfl
import Derived.Test.YtcfmmmloeaggmaaGreatZ7
import Derived.Test.YtcfmmmloeaggmaaGreatZ8
import Derived.Test.YtcfmmmloeaggmaaGreatZ5
import Derived.Test.YtcfmmmloeaggmaaGreatZ6
namespace Go.Proofs.YtcfmmmloeaggmaaGreat
open Go.Kv
set_option linter.unusedVariables false
set_option linter.unusedSimpArgs false
section
section
set_option maxRecDepth 100000
abbrev k129_t0s0:KT:=(.op (oP 73 (.app (.t 70) (.t 72) 2 1)) (.op (oP 74 (.bsl true 25 1 [(.t 73)])) (.op (oP 75 (.app (.t 65) (.t 74) 25 1)) (.op (mV 7 64) (.op (mV 8 75) .fin)))))
abbrev k129_t0s1:KT:=(.op (oP 70 (.call (fC 115) [(.t 69)])) k129_t0s0)
abbrev k129_t0s2:KT:=(.alt (.op (oP 70 (.call (fC 115) [(.t 69)])) (.op (oP 72 (.bsl true 2 1 [(.t 71)])) k129_t0s0)) (.op (oP 72 (.bsl true 2 1 [(.t 71)])) k129_t0s1))
abbrev k129_t0s3:KT:=(.op (oP 69 (.load false 1 (.t 68))) k129_t0s1)
abbrev k129_t0s4:KT:=(.alt (.op (oP 69 (.load false 1 (.t 68))) k129_t0s2) (.op (oP 72 (.bsl true 2 1 [(.t 71)])) k129_t0s3))
abbrev k129_t0s5:KT:=(.op (oP 68 (.idxS 1 (.t 66) (.t 67))) k129_t0s3)
abbrev k129_t0s6:KT:=(.op (oP 64 (.app (.t 61) (.t 63) 48 6)) k129_t0s1)
abbrev k129_t0s7:KT:=(.alt (.op (oP 64 (.app (.t 61) (.t 63) 48 6)) k129_t0s2) (.op (oP 72 (.bsl true 2 1 [(.t 71)])) k129_t0s6))
abbrev k129_t0s8:KT:=(.alt (.op (oP 64 (.app (.t 61) (.t 63) 48 6)) k129_t0s3) (.op (oP 69 (.load false 1 (.t 68))) k129_t0s6))
abbrev k129_t0s9:KT:=(.alt (.op (oP 64 (.app (.t 61) (.t 63) 48 6)) k129_t0s4) (.alt (.op (oP 69 (.load false 1 (.t 68))) k129_t0s7) (.op (oP 72 (.bsl true 2 1 [(.t 71)])) k129_t0s8)))
abbrev k129_t0s10:KT:=(.alt (.op (oP 64 (.app (.t 61) (.t 63) 48 6)) k129_t0s5) (.op (oP 68 (.idxS 1 (.t 66) (.t 67))) k129_t0s8))
abbrev k129_t0s11:KT:=(.op (oP 63 (.bsl true 48 6 [(.t 62)])) k129_t0s6)
abbrev k129_t0s12:KT:=(.alt (.op (oP 63 (.bsl true 48 6 [(.t 62)])) k129_t0s7) (.op (oP 72 (.bsl true 2 1 [(.t 71)])) k129_t0s11))
abbrev k129_t0s13:KT:=(.alt (.op (oP 63 (.bsl true 48 6 [(.t 62)])) k129_t0s8) (.op (oP 69 (.load false 1 (.t 68))) k129_t0s11))
abbrev k129_t0s14:KT:=(.alt (.op (oP 63 (.bsl true 48 6 [(.t 62)])) k129_t0s9) (.alt (.op (oP 69 (.load false 1 (.t 68))) k129_t0s12) (.op (oP 72 (.bsl true 2 1 [(.t 71)])) k129_t0s13)))
abbrev k129_t0s15:KT:=(.alt (.op (oP 63 (.bsl true 48 6 [(.t 62)])) k129_t0s10) (.op (oP 68 (.idxS 1 (.t 66) (.t 67))) k129_t0s13))
abbrev k129_t0s16:KT:=(.op (oP 62 (.load true 6 (.t 12))) k129_t0s11)
abbrev k129_t0s17:KT:=(.alt (.op (oP 62 (.load true 6 (.t 12))) k129_t0s13) (.op (oP 69 (.load false 1 (.t 68))) k129_t0s16))
def k129_t0:KT:=(.op (mV 61 7) (.op (mV 65 8) (.op (mV 66 8) (.op (mV 67 9) (.op (mV 71 10) (.alt (.op (oP 62 (.load true 6 (.t 12))) (.alt (.op (oP 63 (.bsl true 48 6 [(.t 62)])) (.alt (.op (oP 64 (.app (.t 61) (.t 63) 48 6)) (.alt (.op (oP 68 (.idxS 1 (.t 66) (.t 67))) k129_t0s4) (.op (oP 72 (.bsl true 2 1 [(.t 71)])) k129_t0s5))) (.alt (.op (oP 68 (.idxS 1 (.t 66) (.t 67))) k129_t0s9) (.op (oP 72 (.bsl true 2 1 [(.t 71)])) k129_t0s10)))) (.alt (.op (oP 68 (.idxS 1 (.t 66) (.t 67))) k129_t0s14) (.op (oP 72 (.bsl true 2 1 [(.t 71)])) k129_t0s15)))) (.alt (.op (oP 68 (.idxS 1 (.t 66) (.t 67))) (.alt (.op (oP 62 (.load true 6 (.t 12))) k129_t0s14) (.alt (.op (oP 69 (.load false 1 (.t 68))) (.alt (.op (oP 62 (.load true 6 (.t 12))) k129_t0s12) (.op (oP 72 (.bsl true 2 1 [(.t 71)])) k129_t0s16))) (.op (oP 72 (.bsl true 2 1 [(.t 71)])) k129_t0s17)))) (.op (oP 72 (.bsl true 2 1 [(.t 71)])) (.alt (.op (oP 62 (.load true 6 (.t 12))) k129_t0s15) (.op (oP 68 (.idxS 1 (.t 66) (.t 67))) k129_t0s17))))))))))
def k129_b0:KC:=(.seq (.ops [oP 40 (.bin .lss (.t 39) (.t 38))])
 (.seq (.cond (.t 40) .skip (.exit 2))
 (.seq (.block 3 (.seq (.ops [mV 41 39,oP 42 (.idxS 6 (.t 37) (.t 39)),oP 43 (.load true 6 (.t 42)),oP 11 (.alloc [.int .i64 0,.int .i64 0,.int .i64 0,.int .i64 0,.int .i64 0,.int .i64 0]),mV 10 41,⟨none,none,.store 6 (.t 11) (.t 43)⟩])
 (.seq (.draw [mV 44 7,mV 45 9,oP 46 (.idxS 6 (.t 44) (.t 45)),oP 47 (.load true 6 (.t 46)),oP 48 (.load true 6 (.t 11)),oP 49 (.pcall (fC 124) [(.t 47),(.t 48)]),oP 12 (.alloc [.int .i64 0,.int .i64 0,.int .i64 0,.int .i64 0,.int .i64 0,.int .i64 0]),⟨none,none,.store 6 (.t 12) (.t 49)⟩])
 (.seq (.seq (.draw [mV 50 6,oP 51 (.load true 6 (.t 12)),oP 53 (.nilck (.t 50)),oP 54 (.fieldA 2 (.t 53)),oP 52 (.pcall (fC 179) [(.t 51)]),oP 55 (.idxA 3125 1 (.t 54) (.t 52)),oP 56 (.load false 1 (.t 55)),oP 57 (.bin .gtr (.t 56) (iC 0))])
 (.cond (.t 57) (.exit 3) .skip))
 (.seq (.seq (.ops [mV 58 7,oP 59 (.len false (.t 58)),oP 60 (.bin .eql (.t 59) (iC 300))])
 (.cond (.t 60) (.seq (.ops [oP 4 (.mv (.c (.nilptr))),oP 5 (.mv (iC 3))])
 .ret) .skip))
 (.seq (.tree k129_t0)
 (.draw [mV 76 6,oP 77 (.load true 6 (.t 12)),mV 79 7,oP 80 (.len false (.t 79)),oP 81 (.nilck (.t 76)),oP 82 (.fieldA 2 (.t 81)),oP 78 (.pcall (fC 179) [(.t 77)]),oP 83 (.idxA 3125 1 (.t 82) (.t 78)),⟨none,none,.store 1 (.t 83) (.t 80)⟩])))))))
 (.ops [oP 84 (.bin .add (.t 39) (iC 1)),mV 39 84]))))
def k129_b1:KC:=(.seq (.seq (.ops [mV 31 9,mV 32 7,oP 33 (.len false (.t 32)),oP 34 (.bin .lss (.t 31) (.t 33))])
 (.cond (.t 34) .skip (.exit 0)))
 (.seq (.block 1 (.seq (.ops [mV 37 0,oP 38 (.len false (.t 37)),oP 39 (.mv (iC 0))])
 (.block 2 (.loop k129_b0))))
 (.ops [mV 35 9,oP 36 (.bin .add (.t 35) (iC 1)),mV 9 36])))
def k129_b2:KC:=(.seq (.ops [oP 101 (.bin .lss (.t 100) (.t 99))])
 (.seq (.cond (.t 101) .skip (.exit 4))
 (.seq (.block 5 (.seq (.ops [oP 102 (.idxS 6 (.t 98) (.t 100)),oP 103 (.load true 6 (.t 102)),oP 14 (.alloc [.int .i64 0,.int .i64 0,.int .i64 0,.int .i64 0,.int .i64 0,.int .i64 0]),⟨none,none,.store 6 (.t 14) (.t 103)⟩])
 (.draw [mV 104 6,mV 105 6,oP 106 (.nilck (.t 105)),oP 107 (.fieldA 1 (.t 106)),oP 108 (.load false 1 (.t 107)),mV 109 8,mV 110 6,oP 111 (.load true 6 (.t 14)),oP 113 (.nilck (.t 110)),oP 114 (.fieldA 2 (.t 113)),oP 112 (.pcall (fC 179) [(.t 111)]),oP 115 (.idxA 3125 1 (.t 114) (.t 112)),oP 116 (.load false 1 (.t 115)),oP 117 (.bin .sub (.t 116) (iC 1)),oP 118 (.idxS 1 (.t 109) (.t 117)),oP 119 (.load false 1 (.t 118)),oP 120 (.bsl true 25 1 [(.t 119)]),oP 121 (.app (.t 108) (.t 120) 25 1),oP 122 (.nilck (.t 104)),oP 123 (.fieldA 1 (.t 122)),⟨none,none,.store 1 (.t 123) (.t 121)⟩])))
 (.ops [oP 124 (.bin .add (.t 100) (iC 1)),mV 100 124]))))
def k129_b3:KC:=(.seq (.ops [oP 131 (.bin .lss (.t 130) (.t 129))])
 (.seq (.cond (.t 131) .skip (.exit 6))
 (.seq (.block 7 (.seq (.ops [mV 132 130,oP 133 (.idxS 6 (.t 128) (.t 130)),oP 134 (.load true 6 (.t 133)),oP 16 (.alloc [.int .i64 0,.int .i64 0,.int .i64 0,.int .i64 0,.int .i64 0,.int .i64 0]),mV 15 132,⟨none,none,.store 6 (.t 16) (.t 134)⟩])
 (.draw [mV 135 6,oP 136 (.load true 6 (.t 16)),mV 138 15,oP 139 (.bin .add (.t 138) (iC 1)),oP 140 (.nilck (.t 135)),oP 141 (.fieldA 2 (.t 140)),oP 137 (.pcall (fC 179) [(.t 136)]),oP 142 (.idxA 3125 1 (.t 141) (.t 137)),⟨none,none,.store 1 (.t 142) (.t 139)⟩])))
 (.ops [oP 143 (.bin .add (.t 130) (iC 1)),mV 130 143]))))
def k129:KC:=(.seq (.ops [oP 4 (.mv (.c (.nilptr))),oP 5 (.mv (iC 0))])
 (.seq (.ops [oP 17 (.build ([.nils,.nils] ++ List.replicate 3125 (.int .i64 0)) []),oP 18 (.box false (.t 17)),mV 6 18])
 (.seq (.ops [mV 19 1,oP 20 (.call (fC 123) [(.t 19)]),oP 21 (.bsl false 48 6 [(.t 20)]),mV 7 21])
 (.seq (.ops [oP 22 (.bsl false 25 1 [(.c (.nils))]),mV 8 22])
 (.seq (.draw [mV 23 6,mV 24 7,oP 25 (.idxS 6 (.t 24) (iC 0)),oP 26 (.load true 6 (.t 25)),oP 28 (.nilck (.t 23)),oP 29 (.fieldA 2 (.t 28)),oP 27 (.pcall (fC 179) [(.t 26)]),oP 30 (.idxA 3125 1 (.t 29) (.t 27)),⟨none,none,.store 1 (.t 30) (iC 1)⟩])
 (.seq (.seq (.ops [oP 9 (.mv (iC 0))])
 (.block 0 (.loop k129_b1)))
 (.seq (.ops [mV 85 6,mV 86 7,oP 87 (.call (fC 180) [(.t 86)]),oP 88 (.nilck (.t 85)),oP 89 (.fieldA 0 (.t 88)),⟨none,none,.store 1 (.t 89) (.t 87)⟩])
 (.seq (.ops [mV 90 6,oP 91 (.nilck (.t 90)),oP 92 (.fieldA 0 (.t 91)),oP 93 (.load false 1 (.t 92)),oP 94 (.call (fC 181) [(.t 93),(fC 182)])])
 (.seq (.seq (.ops [mV 95 6,oP 96 (.nilck (.t 95)),oP 97 (.fieldA 0 (.t 96)),oP 98 (.load false 1 (.t 97)),oP 99 (.len false (.t 98)),oP 100 (.mv (iC 0))])
 (.block 4 (.loop k129_b2)))
 (.seq (.seq (.ops [mV 125 6,oP 126 (.nilck (.t 125)),oP 127 (.fieldA 0 (.t 126)),oP 128 (.load false 1 (.t 127)),oP 129 (.len false (.t 128)),oP 130 (.mv (iC 0))])
 (.block 6 (.loop k129_b3)))
 (.seq (.ops [mV 144 6,mV 4 144,oP 5 (.mv (iC 0))])
 .ret)))))))))))
theorem e129:Ent 129 145 [63,72,74,120] [.t 4,.t 5] k129:=ent Tryz.func129
def k180:KC:=(.seq (.ops [oP 2 (.mv (.c (.nils)))])
 (.seq (.seq (.ops [mV 3 0,oP 4 (.isn false (.t 3))])
 (.cond (.t 4) (.seq (.ops [oP 2 (.mv (.c (.nils)))])
 .ret) .skip))
 (.seq (.ops [oP 5 (.bsl false 48 6 []),mV 6 0,oP 7 (.app (.t 5) (.t 6) 48 6),mV 2 7])
 .ret)))
theorem e180:Ent 180 8 [] [.t 2] k180:=ent Tryz.func180
end
end
section
section
attribute [local irreducible] ACall PCall KL
set_option maxHeartbeats 8000000 in
theorem nm_tree {R:List (List Nat)} {g:List Nat} {τ:Heap} {u1 u2:Nat} {ws:List PV} {W:List (List Int)} {bb i k:Nat}
  (h1:τ[1]? = some (.arr u1 48 6 (aggs (R.map mp)))) (hW:WG τ (fun id=>id=0∨id=1) 2 u2 ws W) (hWl:W.length=R.length) (hb:τ[bb]? = some (.box (ints (mp g)))) (hbb:2<bb) (h6g:(mp g).length=6) (hRl:R.length<300) (hi:i<R.length) (hk:k≤1000) (hw:∀ w∈W,w.length+1≤W.length)
  {Q:Exit→Env→Heap→Prop} {v0 v6 v37 v38 v39:PV} {env:Env} (e0:Kv.look env 0=v0) (e6:Kv.look env 6=v6) (e7:Kv.look env 7 = .ref 1 u1 0 R.length) (e8:Kv.look env 8 = .ref 2 u2 0 W.length) (e9:Kv.look env 9 = .int .i64 i) (e10:Kv.look env 10 = .int .i64 k) (e12:Kv.look env 12 = .ptr bb 0) (e37:Kv.look env 37=v37) (e38:Kv.look env 38=v38) (e39:Kv.look env 39=v39)
  (hQ:∀ env' ρ w',keep [0,6,7,8,9,12,37,38,39] env' = [(0,v0),(6,v6),(7,.ref 1 (u1+1) 0 (R.length+1)),(8,.ref 2 (u2+1) 0 (W.length+1)),(9,.int .i64 i),(12,.ptr bb 0),(37,v37),(38,v38),(39,v39)]→ρ[1]? = some (.arr (u1+1) 48 6 (aggs ((R ++ [g]).map mp)))→WG ρ (fun id=>id=0∨id=1) 2 (u2+1) (ws ++ [w']) (W ++ [W.getD i [] ++ [(k:Int)]])→(∀ id,id < τ.length→id≠1→id≠2→ρ[id]? = τ[id]?)→Q .normal env' ρ) :
  vT Tryz.prog k129_t0 Q env τ:=by
 have hτ1:=(List.getElem?_eq_some_iff.1 h1).1
 have hτ2:=(List.getElem?_eq_some_iff.1 hW.out).1
 have hτb:=(List.getElem?_eq_some_iff.1 hb).1
 obtain ⟨σ,hσ⟩:∃ σ,σ = τ.set 1 (.arr (u1+1) 48 6 (aggs ((R ++ [g]).map mp))):=⟨_,rfl⟩
 have hl:σ.length = τ.length:=by rw [hσ,List.length_set]
 have s1:σ[1]? = some (.arr (u1+1) 48 6 (aggs ((R ++ [g]).map mp))):=by rw [hσ]; exact List.getElem?_set_self hτ1
 have sk:∀ id,id≠1→σ[id]? = τ[id]?:=fun id h=>by rw [hσ,List.getElem?_set_ne (Ne.symm h)]
 have sb:σ[bb]? = some (.box (ints (mp g))):=by rw [sk bb (by omega)]; exact hb
 have hWs:WG σ (fun id=>id=0∨id=1) 2 u2 ws W:=hW.keep (fun id _ hA=>sk id fun e=>hA (.inr e)) (by simp)
 have hWo:=hW.out
 have hWso:=hWs.out
 have hwl:=hW.len
 obtain ⟨w,hwi,hWd⟩:=hWs.cell (i:=i) (by omega)
 have hwcs:=hWd.cs
 have hWi:W[i].length+1≤W.length:=hw _ (List.getElem_mem _)
 have hgd:W.getD i []=W[i]:=by rw [List.getD_eq_getElem?_getD,List.getElem?_eq_getElem (by omega)]; rfl
 rw [hgd] at hQ
 clear hgd
 generalize W[i]'(by omega)=wi at hWd hWi hQ
 have t6:List.take 6 (mp g)=mp g:=take6 h6g
 have tR:List.take R.length (R.map mp)=R.map mp:=List.take_of_length_le (by rw [List.length_map]; exact Nat.le_refl _)
 have tRg:R.map mp ++ [mp g]=(R ++ [g]).map mp:=by simp
 have hilg:(ints (mp g)).length=6:=by rw [ints_length,h6g]
 have hp1:∀ K:PV→Heap→Prop,K (.ref 1 (u1+1) 0 (R.length+1)) σ→aApp 48 6 (.ref 1 u1 0 R.length) (.list [.agg (ints (mp g))]) τ K:=fun K hK=>by
  try simp only [h1,aggs_length,List.length_map,t6,tR,tRg,OpK_eq,HKv,h6g,go_sem]
  exact ⟨⟨Nat.le_refl _,by omega⟩,by rw [← hσ]; exact hK⟩
 have hpush:∀ (c:AObj) (w':PV),Wd (σ ++ [c]) (fun id=>(id=0∨id=1)∨id=2) w' (wi ++ [(k:Int)])→∀ K':PV→Heap→Prop,
   (∀ ρ,ρ[1]? = some (.arr (u1+1) 48 6 (aggs ((R ++ [g]).map mp)))→WG ρ (fun id=>id=0∨id=1) 2 (u2+1) (ws ++ [w']) (W ++ [wi ++ [(k:Int)]])→(∀ id,id < τ.length→id≠1→id≠2→ρ[id]? = τ[id]?)→K' (.ref 2 (u2+1) 0 (W.length+1)) ρ) →
   aApp 25 1 (.ref 2 u2 0 W.length) (.list [w']) (σ ++ [c]) K':=fun c w' hw' K' hK'=>by
  have hG:WG (σ ++ [c]) (fun id=>id=0∨id=1) 2 u2 ws W:=hWs.keep (fun id hid _=>List.getElem?_append_left hid) (by simp)
  refine hG.push hw' (by omega) fun hQ=>hK' _ ?_ hQ fun id hid n1 n2=>?_
  ·rw [List.getElem?_set_ne (by decide),List.getElem?_append_left (by omega)]; exact s1
  ·rw [List.getElem?_set_ne (Ne.symm n2),List.getElem?_append_left (by omega)]; exact sk id n1
 have hwd1:Wd (σ ++ [.arr 2 2 1 (ints (wi ++ [(k:Int)]))]) (fun id=>(id=0∨id=1)∨id=2) (.ref σ.length 2 0 (wi.length+1)) (wi ++ [(k:Int)]):=by
  have e:wi.length+1=(wi ++ [(k:Int)]).length:=by simp
  rw [e]
  exact .inr ⟨_,2,rfl,by simp,fun h=>by rcases h with (h | h) | h <;> omega⟩
 have hwd0:wi = []→Wd (σ ++ [.arr 0 2 1 [.int .i64 k]]) (fun id=>(id=0∨id=1)∨id=2) (.ref σ.length 0 0 1) (wi ++ [(k:Int)]):=fun h0=>by
  rw [h0]
  exact .inr ⟨_,0,rfl,by simp [ints],fun h=>by rcases h with (h | h) | h <;> omega⟩
 have hgb:∀ (s:Heap) (a:AObj),(s ++ [a])[s.length]? = some a:=fun s a=>by simp
 have hsb:∀ (s:Heap) (a b:AObj),(s ++ [a]).set s.length b=s ++ [b]:=fun s a b=>by simp [List.set_append_right]
 have hpR:∀ (c:AObj) (w':PV),Wd (σ ++ [c]) (fun id=>(id=0∨id=1)∨id=2) w' (wi ++ [(k:Int)])→∀ K':PV→Heap→Prop,
   (∀ ρ,ρ[1]? = some (.arr (u1+1) 48 6 (aggs ((R ++ [g]).map mp)))→WG ρ (fun id=>id=0∨id=1) 2 (u2+1) (ws ++ [w']) (W ++ [wi ++ [(k:Int)]])→(∀ id,id < τ.length→id≠1→id≠2→ρ[id]? = τ[id]?)→K' (.ref 2 (u2+1) 0 (W.length+1)) ρ) →
   AppR 25 1 2 u2 0 W.length (.list [w']) (σ ++ [c]) K' (σ ++ [c])[2]?:=fun c w' hw' K' hK'=>by
  rw [← aApp_ref]
  exact hpush c w' hw' K' hK'
 have hld:∀ P:PV→Prop,P w→(i<ws.length∧∀ x,ws[i]? = some x→0<x.cs.length∧∀ c,x.cs[0]? = some c→P c):=fun P hP=>by
  refine ⟨by omega,fun x hx=>?_⟩
  rw [hwi] at hx; cases hx
  rw [hwcs.1]
  exact ⟨by simp,fun q hq=>by simp only [List.getElem?_cons_zero,Option.some.injEq] at hq; subst hq; exact hP⟩
 generalize hv7:PV.ref 1 u1 0 R.length=v7 at *
 unfold k129_t0
 repeat' (first
  | refine Eq.mpr (vT_alt _ _) ⟨?_,?_⟩
  | refine hp1 _ ?_
  | refine hld _ ?_
  | (refine ⟨⟨by omega,by omega⟩,?_⟩)
  | simp only [e7,e8,e9,e10,e12,hb,sb,hilg,h6g,t6,hWso,hWo,OpK_eq,HKv,go_sem])
 all_goals (refine ACall.lend (p115P wi (by omega)) (.cons hWd.imm (.nil _)) fun v s hv=>?_)
 all_goals (rcases hv with ⟨rfl,rfl⟩ | ⟨hl0,rfl,rfl⟩)
 all_goals (first | refine ⟨⟨free_ref _ _ _ _,Free.ints _ _ _ _⟩,?_⟩ | refine ⟨⟨Plain.nils.fr,Free.nil⟩,?_⟩)
 all_goals (try simp only [OpK_eq,HKv,ren_ref,ren_arr,ren_ints,Nat.zero_add,hgb,hsb,go_sem] )
 all_goals (first | refine ⟨⟨Nat.le_refl _,by omega⟩,hpR _ _ hwd1 _ fun ρ q1 q2 q3=>?_⟩ | refine hpR _ _ (hwd0 hl0) _ fun ρ q1 q2 q3=>?_)
 all_goals (try simp only [OpK_eq,HKv,go_sem] )
 all_goals exact hQ _ _ _ (by simp [keep,e0,e6,e9,e12,e37,e38,e39]) q1 q2 q3
end
end
end Go.Proofs.YtcfmmmloeaggmaaGreat
section
namespace Go.Proofs
open Go.Shelf Go.RowKit Go.Lib Go.Sort
shelf_lay_g SlLaysF0.n6 Slsf 6 at Tryz 181 as YtcfmmmloeaggmaaGreat.sortMaps
end Go.Proofs
namespace Go.Proofs.YtcfmmmloeaggmaaGreat
open Go.Shelf Go.RowKit Go.Lib Go.Sort
set_option linter.unusedVariables false
set_option linter.unusedSimpArgs false
attribute [local go_sem] Oper.semAt_some
theorem slc_or (x y:Int) (xs ys:List Int):orV (cI x y) (slc xs ys)=slc (x :: xs) (y :: ys):=by
 rw [slc]
 unfold orV cI
 (repeat' split) <;> first | rfl | omega
theorem slc_swo {α:Type} (f:α→List Int):SWO (ltOf fun x y=>slc (f x) (f y)) where
 irrefl x:=by
  dsimp only [ltOf]
  exact decide_eq_false (by rw [slc_self]; decide)
 trans x y z h1 h2:=by
  dsimp only [ltOf] at *
  rw [decide_eq_true_iff] at *
  have a1:=slc_anti (f y) (f z)
  have a2:=slc_anti (f x) (f z)
  refine Classical.byContradiction fun hn=>?_
  have h3:=slc_trans (xs:=f z) (ys:=f x) (zs:=f y) (by omega) (by omega)
  omega
 ntrans x y z h1 h2:=by
  dsimp only [ltOf] at *
  rw [decide_eq_false_iff_not] at *
  have a1:=slc_anti (f x) (f y)
  have a2:=slc_anti (f y) (f z)
  have a3:=slc_anti (f x) (f z)
  have h3:=slc_trans (xs:=f z) (ys:=f y) (zs:=f x) (by omega) (by omega)
  omega
theorem fm_idx {α:Type} {enc:α→List Value} {k:Nat} (hk:0<k) (he:∀ x,(enc x).length=k):∀ (L:List α) (t:Nat),(L.flatMap enc)[t]? = (L[t / k]?).bind fun x=>(enc x)[t % k]?
 | [],t=>by simp
 | a :: L,t=>by
  rw [List.flatMap_cons]
  by_cases h:t<k
  ·rw [List.getElem?_append_left (by rw [he]; exact h),Nat.div_eq_of_lt h,Nat.mod_eq_of_lt h]; rfl
  ·rw [List.getElem?_append_right (by rw [he]; omega),he,fm_idx hk he L (t - k)]
   have e1:t / k=(t - k) / k+1:=Nat.div_eq_sub_div hk (by omega)
   have e2:t % k=(t - k) % k:=Nat.mod_eq_sub_mod (by omega)
   rw [e1,e2]; rfl
theorem fm_flatK {α:Type} [Inhabited α] {enc:α→List Value} {k:Nat} (hk:0<k) (he:∀ x,(enc x).length=k) (d:Array α):(flatK enc k d).toList=d.toList.flatMap enc:=by
 apply List.ext_getElem?
 intro t
 rw [fm_idx hk he]
 by_cases h:t<d.size * k
 ·have h1:t / k<d.size:=(Nat.div_lt_iff_lt_mul hk).2 h
  have h2:t % k<k:=Nat.mod_lt _ hk
  have h3:t<(flatK enc k d).size:=by simpa using h
  have hg:=get_flatK enc k d t h
  rw [getElem!_pos _ t h3] at hg
  have e1:d.toList[t / k]? = some d[t / k]:=by rw [Array.getElem?_toList,Array.getElem?_eq_getElem h1]
  rw [Array.getElem?_toList,Array.getElem?_eq_getElem h3,hg,e1]
  have e2:d[t / k]! = d[t / k]:=getElem!_pos d (t / k) h1
  rw [e2]
  show _=(enc d[t / k])[t % k]?
  have h4:t % k<(enc d[t / k]).length:=by rw [he]; exact h2
  rw [List.getElem?_eq_getElem h4,getElem!_pos (enc d[t / k]) (t % k) h4]
 ·have h1:¬ t / k<d.size:=fun c=>h ((Nat.div_lt_iff_lt_mul hk).1 c)
  rw [List.getElem?_eq_none (by simp; omega),List.getElem?_eq_none (by simp; omega)]; rfl
abbrev M6:={l:List Int // l.length=6}
instance:Inhabited M6:=⟨⟨[0,0,0,0,0,0],rfl⟩⟩
def enc6 (x:M6):List Value:=x.1.map (Value.int .i64)
theorem enc6_len (x:M6):(enc6 x).length=6:=by rw [enc6,List.length_map,x.2]
theorem m6_out (x:M6):∃ a0 a1 a2 a3 a4 a5,x.1 = [a0,a1,a2,a3,a4,a5]:=by
 obtain ⟨l,h⟩:=x
 match l,h with
 | [a0,a1,a2,a3,a4,a5],_=>exact ⟨a0,a1,a2,a3,a4,a5,rfl⟩
theorem cell_six (w w':World) (a0 a1 a2 a3 a4 a5:Int) (t:TypeId) (b:Nat) (h:w'.heap[b]? = some (.cells #[.int .i64 a0,.int .i64 a1,.int .i64 a2,.int .i64 a3,.int .i64 a4,.int .i64 a5] t (0,0))):∀ j,j<5→w'.cell? ⟨b,1+j,none⟩=some (.int .i64 (([a1,a2,a3,a4,a5]:List Int)[j]?.getD 0)):=fun j hj=>by
 unfold World.cell?; rw [h]
 match j,hj with
 | 0,_=>rfl
 | 1,_=>rfl
 | 2,_=>rfl
 | 3,_=>rfl
 | 4,_=>rfl
theorem mixedW:Tryz.prog.follows .mixedOrders=true:=by kernel_rfl
theorem heap_two1 (w:World) (x y:Obj):((w.alloc x).alloc y).heap[w.heap.size]? = some x:=by
 rw [alloc_eq_grow,alloc_eq_grow,grow_grow]; show (w.heap ++ (#[x] ++ #[y]))[_]? = _; simp
theorem heap_two2 (w:World) (x y:Obj):((w.alloc x).alloc y).heap[w.heap.size+1]? = some y:=by
 rw [alloc_eq_grow,alloc_eq_grow,grow_grow]; show (w.heap ++ (#[x] ++ #[y]))[_]? = _; simp
set_option maxRecDepth 100000 in
set_option maxHeartbeats 2000000 in
theorem mcmp_calls (a0 a1 a2 a3 a4 a5 b0 b1 b2 b3 b4 b5:Int) (w:World) :
  Calls Tryz.prog 182 #[.agg #[.int .i64 a0,.int .i64 a1,.int .i64 a2,.int .i64 a3,.int .i64 a4,.int .i64 a5],.agg #[.int .i64 b0,.int .i64 b1,.int .i64 b2,.int .i64 b3,.int .i64 b4,.int .i64 b5]] w fun e w'=>e = .returned (.int .i64 (slc [a0,a1,a2,a3,a4,a5] [b0,b1,b2,b3,b4,b5]))∧∃ q os,w'=grow (w.drewN q) os:=by
 have c1:∀ w',Calls Tryz.prog 165 #[.int .i64 a0,.int .i64 b0] w' fun e w''=>e = .returned (.int .i64 (cI a0 b0))∧w''=w':=fun w'=>(callsIn_wide (n:=1)).1 (cmp64_in Fence.wide 1 trivial trivial rfl (by decide) a0 b0 w')
 rw [← slc_or]
 go_enter Tryz.func182,Tryz.ntmps182
 go_wp2_with fail
 have g1:=heap_two1 w (Obj.cells #[.int .i64 a0,.int .i64 a1,.int .i64 a2,.int .i64 a3,.int .i64 a4,.int .i64 a5] 48) (Obj.cells #[.int .i64 b0,.int .i64 b1,.int .i64 b2,.int .i64 b3,.int .i64 b4,.int .i64 b5] 48)
 have g2:=heap_two2 w (Obj.cells #[.int .i64 a0,.int .i64 a1,.int .i64 a2,.int .i64 a3,.int .i64 a4,.int .i64 a5] 48) (Obj.cells #[.int .i64 b0,.int .i64 b1,.int .i64 b2,.int .i64 b3,.int .i64 b4,.int .i64 b5] 48)
 have gW:∃ os,((w.alloc (.cells #[.int .i64 a0,.int .i64 a1,.int .i64 a2,.int .i64 a3,.int .i64 a4,.int .i64 a5] 48)).alloc (.cells #[.int .i64 b0,.int .i64 b1,.int .i64 b2,.int .i64 b3,.int .i64 b4,.int .i64 b5] 48))=grow w os:=⟨_,by rw [alloc_eq_grow,alloc_eq_grow,grow_grow]⟩
 generalize ((w.alloc (.cells #[.int .i64 a0,.int .i64 a1,.int .i64 a2,.int .i64 a3,.int .i64 a4,.int .i64 a5] 48)).alloc (.cells #[.int .i64 b0,.int .i64 b1,.int .i64 b2,.int .i64 b3,.int .i64 b4,.int .i64 b5] 48))=wq at *
 obtain ⟨osq,hq⟩:=gW
 refine wp_region_still_tail 10 mixedW (by kernel_rfl) ?_
 simp only [List.take_succ_cons,List.take_zero,List.drop_succ_cons,List.drop_zero]
 change wpStill _ _ wq.drew _ _ _
 have g1':wq.drew.heap[w.heap.size]? = _:=g1
 have g2':wq.drew.heap[w.heap.size+1]? = _:=g2
 have f1:wq.drew.cell? ⟨w.heap.size,0,none⟩=some (.int .i64 a0):=by unfold World.cell?; rw [g1']; rfl
 have f2:wq.drew.cell? ⟨w.heap.size+1,0,none⟩=some (.int .i64 b0):=by unfold World.cell?; rw [g2']; rfl
 have c2:=(callsIn_wide (n:=2)).1 (slc_in Fence.wide 2 trivial trivial trivial rfl (by decide) w.heap.size 1 5 (w.heap.size+1) 1 5 [a1,a2,a3,a4,a5] [b1,b2,b3,b4,b5] (by simp) (by simp) wq.drew (cell_six wq wq.drew a0 a1 a2 a3 a4 a5 48 _ g1') (cell_six wq wq.drew b0 b1 b2 b3 b4 b5 48 _ g2'))
 have hq':∃ os,wq=grow w os:=⟨osq,hq⟩
 clear hq g1 g2
 generalize wq.drew=wd at *
 repeat still_step
 still_call (c1 _)
 repeat still_step
 still_call c2
 refine wpStill_nil ?_
 go_wp2_with fail
 refine ((callsIn_wide (n:=1)).1 (or_in Fence.wide 1 trivial rfl wq.heap.size (cI a0 b0) (slc [a1,a2,a3,a4,a5] [b1,b2,b3,b4,b5]) (wq.alloc (.cells #[.int .i64 (cI a0 b0),.int .i64 (slc [a1,a2,a3,a4,a5] [b1,b2,b3,b4,b5])] 3)).drew (cell_two wq _ _ _).1 (cell_two wq _ _ _).2)).mono ?_
 rintro e w' ⟨rfl,rfl⟩
 go_wp2_with fail
 go_ret
 obtain ⟨os,rfl⟩:=hq'
 exact ⟨rfl,1,_,by rw [alloc_eq_grow,grow_grow]; rfl⟩
theorem sortMaps_world {w:World} {g cap:Nat} {e:TypeId} {cur:Array Value} (hb:w.heap[g]? = some (.cells cur e (0,0))) (ds:List M6) (hn:ds.length≤1000) (hcur:cur.toList.take (ds.length * 6)=ds.flatMap enc6) :
  Calls Tryz.prog 181 #[.slice (some ⟨g,0,none⟩) ds.length cap,.func (.func 182) #[] #[]] w fun en w'=>en = .returned (.tuple #[])∧∃ r:List M6,r.Perm ds∧r.Pairwise (fun a b=>slc a.1 b.1≤0) ∧
   (∃ cur',w'.heap[g]? = some (.cells cur' e (0,0))∧cur'.size=cur.size∧cur'.toList.take (ds.length * 6)=r.flatMap enc6∧cur'.toList.drop (ds.length * 6)=cur.toList.drop (ds.length * 6))∧(∀ k,k<w.heap.size→k≠g→w'.heap[k]? = w.heap[k]?)∧w.heap.size≤w'.heap.size∧w'.os=w.os∧w'.tape=w.tape∧w'.output=w.output:=by
 have hds:ds.toArray.size=ds.length:=by simp
 have hfm:(ds.flatMap enc6).length=ds.length * 6:=by
  clear hcur hds
  induction ds with
  | nil=>rfl
  | cons a l ih =>
   have:=ih (by simp at hn; omega) 
   rw [List.flatMap_cons,List.length_append,enc6_len,this,List.length_cons]; omega
 have hcs:ds.length * 6≤cur.size:=by
  have:=congrArg List.length hcur
  rw [List.length_take,hfm] at this
  simp at this; omega
 have hfl:(flatK enc6 6 ds.toArray).toList=ds.flatMap enc6:=fm_flatK (by decide) enc6_len ds.toArray
 have hone:∀ x,∀ v∈enc6 x,v.oneCell'=true:=fun x v hv=>by
  simp only [enc6,List.mem_map] at hv
  obtain ⟨y,_,rfl⟩:=hv; rfl
 have hH:HoldsK enc6 6 w g 0 ds.toArray:=fun j hj=>by
  rw [size_flatK,hds] at hj
  refine ⟨?_,by simp [World.frozen?,hb]⟩
  have h3:(cur.toList.take (ds.length * 6))[j]? = (flatK enc6 6 ds.toArray).toList[j]?:=by rw [hcur,hfl]
  rw [List.getElem?_take_of_lt hj,Array.getElem?_toList,Array.getElem?_toList] at h3
  have hj2:j<(flatK enc6 6 ds.toArray).size:=by rw [size_flatK,hds]; exact hj
  simp only [World.cell?,hb,Nat.zero_add]
  simp only [Option.isSome_none,Bool.false_eq_true,if_false]
  rw [h3,Array.getElem?_eq_getElem hj2]
  show _=some (flatK enc6 6 ds.toArray)[j]!
  rw [getElem!_pos (flatK enc6 6 ds.toArray) j hj2]
 have hcmp:CmpLays Tryz.prog 182 #[] enc6 6 (fun x y=>slc x.1 y.1) g 0 ds.toArray.size w:=fun m os dk hdk x y=>by
  obtain ⟨a0,a1,a2,a3,a4,a5,ex⟩:=m6_out x
  obtain ⟨b0,b1,b2,b3,b4,b5,ey⟩:=m6_out y
  have e1:enc6 x = [.int .i64 a0,.int .i64 a1,.int .i64 a2,.int .i64 a3,.int .i64 a4,.int .i64 a5]:=by rw [enc6,ex]; rfl
  have e2:enc6 y = [.int .i64 b0,.int .i64 b1,.int .i64 b2,.int .i64 b3,.int .i64 b4,.int .i64 b5]:=by rw [enc6,ey]; rfl
  show Calls Tryz.prog 182 #[.agg (enc6 x).toArray,.agg (enc6 y).toArray] _ _
  rw [e1,e2]
  refine (mcmp_calls a0 a1 a2 a3 a4 a5 b0 b1 b2 b3 b4 b5 _).mono ?_
  rintro en w' ⟨rfl,q,os',rfl⟩
  exact ⟨by show _=Ending.returned (Value.int .i64 (slc x.1 y.1)); rw [ex,ey],q,os',rfl⟩
 have hcon:=AnyQ.slices_SortFunc sortMaps 6 Tryz.isAgg48 Tryz.sizeOf48 enc6 enc6_len hone _ (slc_swo fun x:M6=>x.1) 182 #[] g 0 cap ds.toArray w (enters_of Tryz.func182 (by kernel_rfl) rfl) hcmp hH (Array.getElem?_eq_some_iff.1 hb).1 (by rw [hds]; omega)
 rw [hds] at hcon
 change Calls Tryz.prog 181 _ _ _ at hcon
 refine hcon.mono ?_
 rintro en w' ⟨rfl,d',nn,os,⟨hs,_,hp⟩,hS,rfl⟩
 rw [hds] at hs
 have ed':d'.extract 0 ds.length=d':=by rw [← hs]; simp
 have ed:ds.toArray.extract 0 ds.length=ds.toArray:=by
  have:=Array.extract_size (xs:=ds.toArray)
  rwa [hds] at this
 rw [ed',ed] at hp
 have hfs:(flatK enc6 6 d').size=ds.length * 6:=by rw [size_flatK,hs]
 have hfl':(flatK enc6 6 d').toList=d'.toList.flatMap enc6:=fm_flatK (by decide) enc6_len d'
 have hcv:sortWorldK enc6 6 w g 0 nn d' os=sortWorld id w g 0 nn (flatK enc6 6 d') os:=rfl
 rw [hcv]
 refine ⟨rfl,d'.toList,by simpa using hp,?_,⟨_,sorted_heap id (flatK enc6 6 d') hb,by simp [putCells],?_,by rw [← hfs]; exact sorted_drop id cur _⟩,fun k hk hne=>sorted_other id _ hk hne,sorted_size id _,rfl,rfl,rfl⟩
 ·rw [List.pairwise_iff_getElem]
  intro i j hi hj hij
  have hj':j<ds.length:=by rw [← hs]; simpa using hj
  have h4:=hS i j (Nat.zero_le _) hij hj'
  have hgi:d'[i]! = d'.toList[i]:=by rw [getElem!_pos d' i (by simpa using hi)]; simp
  have hgj:d'[j]! = d'.toList[j]:=by rw [getElem!_pos d' j (by simpa using hj)]; simp
  rw [hgi,hgj] at h4
  have h5:=slc_anti d'.toList[i].1 d'.toList[j].1
  simp only [ltOf,decide_eq_false_iff_not] at h4
  omega
 ·have:=sorted_take id cur (flatK enc6 6 d') (by rw [hfs]; exact hcs)
  rw [hfs,hfl'] at this
  simpa using this
end Go.Proofs.YtcfmmmloeaggmaaGreat
end
namespace Go.Proofs.YtcfmmmloeaggmaaGreat
open Go.Kv
set_option linter.unusedVariables false
set_option linter.unusedSimpArgs false
section
section
attribute [local irreducible] ACall PCall KL
theorem rel_intsV {φ:Frz} {ι:List KLoc} {L:List Int} {ys:List Value} (h:RelL φ ι (ints L) ys):ys=L.map (Value.int .i64):=by
 apply List.ext_getElem?
 intro i
 rw [List.getElem?_map]
 by_cases hi:i<L.length
 ·have h1:(ints L)[i]? = some (.int .i64 L[i]):=by simp [ints,hi]
  obtain ⟨v,hv,hR⟩:=h.get h1
  rw [hv,hR.int_inv]; simp [hi]
 ·have:=h.1
  rw [List.getElem?_eq_none (by rw [← this]; simpa [ints] using hi),List.getElem?_eq_none (by omega)]; rfl
theorem intsV_rel {φ:Frz} {ι:List KLoc} (L:List Int):RelL φ ι (ints L) (L.map (Value.int .i64)) :=
 ⟨by simp [ints],fun i c v hc hv=>by
  obtain ⟨x,hx,rfl⟩:=ints_get hc
  rw [List.getElem?_map,hx] at hv
  simp only [Option.map_some,Option.some.injEq] at hv
  subst hv; exact .int _ _⟩
theorem flat_aggsI:∀ ms:List (List Int),flat (aggs ms)=ints ms.flatten
 | []=>rfl
 | m :: ms=>by
  have:=flat_aggsI ms
  simp only [aggs,List.map_cons,flat_cons,PV.cs,List.flatten_cons,ints,List.map_append] at this ⊢
  rw [this]
theorem enc6_flat:∀ ds:List M6,ds.flatMap enc6=((ds.map Subtype.val).flatten).map (Value.int .i64)
 | []=>rfl
 | d :: ds=>by
  rw [List.flatMap_cons,enc6_flat ds,List.map_cons,List.flatten_cons,List.map_append]; rfl
theorem m6_of:∀ ms:List (List Int),(∀ m∈ms,m.length=6)→∃ ds:List M6,ds.map Subtype.val=ms
 | [],_=>⟨[],rfl⟩
 | m :: ms,h=>by
  obtain ⟨ds,hd⟩:=m6_of ms fun x hx=>h x (List.mem_cons_of_mem _ hx)
  exact ⟨⟨m,h m (by simp)⟩ :: ds,by rw [List.map_cons,hd]⟩
theorem sort_maps {σ:Heap} {id ver:Nat} {e:TypeId} {ms:List (List Int)} (h6:∀ m∈ms,m.length=6) (h0:0<ms.length) (hn:ms.length≤1000) (hid:σ[id]? = some (.arr ver e 6 (aggs ms))) {K:PV→Heap→Prop}
  (hK:∀ r:List (List Int),r.Perm ms→r.Pairwise (fun a b=>slc a b≤0)→K (.tup []) (σ.set id (.arr ver e 6 (aggs r)))) :
  ACall Tryz.prog 181 [.ref id ver 0 ms.length,.fn (.func 182) [] []] σ K:=by
 unfold ACall
 refine ⟨⟨Tryz.f181,Tryz.func181,by kernel_rfl,by kernel_rfl⟩,fun φ ι w vs hr ho=>?_⟩
 obtain ⟨ds,hds⟩:=m6_of ms h6
 have hdl:ds.length=ms.length:=by rw [← hds,List.length_map]
 have hlt:=(List.getElem?_eq_some_iff.1 hid).1
 have hltι:id < ι.length:=by rw [ho.len]; exact hlt
 obtain ⟨l,hl⟩:∃ l,ι[id]? = some l:=⟨_,List.getElem?_eq_getElem hltι⟩
 have hobj:=ho.obj id _ l hid hl
 have hal:(aggs ms).length=ms.length:=aggs_length ms
 cases l with
 | dead=>exact hobj.elim
 | box b=>exact hobj.elim
 | arr ver' e' esz u =>
  simp only [ObjOK] at hobj
  obtain ⟨rfl,rfl,rfl,_,ys,hrow,hrel,hok,hcl⟩:=hobj
  rw [flat_aggsI] at hrel hok
  have hys:=rel_intsV hrel
  rw [← hds,← enc6_flat] at hys
  subst hys
  rw [hal] at hrow
  obtain ⟨v0,hv0,r0⟩:=hr.get (i:=0) rfl
  obtain ⟨v1,hv1,r1⟩:=hr.get (i:=1) rfl
  obtain ⟨x,y,rfl,hx,hy⟩:=r1.fn_inv
  have ex:x = []:=List.eq_nil_of_length_eq_zero hx.1.symm
  have ey:y = []:=List.eq_nil_of_length_eq_zero hy.1.symm
  subst ex; subst ey
  have hset:∀ u',u'=u→ι.set id (.arr ver e 6 u') = ι:=fun u' hu=>by
   subst hu
   have:=(List.getElem?_eq_some_iff.1 hl).2
   rw [← this]; exact List.set_getElem_self _
  cases r0 with
  | ref _ _ _ _ _ k e2 esz2 u2 hh ho' hk' hv' =>
   rw [hl] at hh
   cases hh
   rcases hv' rfl with ⟨g,n,cap,o,rfl,q1,q2,q3,q4⟩ | ⟨_,_,hz,_⟩
   rotate_left
   ·omega
   rcases hrow.2 with ⟨hnil,_⟩ | ⟨g2,cap2,cur,heq,hg,hgb,c1,c2,c3,c4⟩
   ·cases hnil
   cases heq
   obtain rfl:=q4 rfl
   rw [Nat.sub_zero] at q2
   subst q2
   have ev:vs = [.slice (some ⟨g,0,none⟩) ms.length cap,.func (.func 182) #[] #[]]:=by
    have hvl:=hr.1
    match vs,hvl,hv0,hv1 with
    | [a,c],_,h0,h1=>simp only [List.getElem?_cons_zero,Option.some.injEq] at h0; simp only [List.getElem?_cons_succ,List.getElem?_cons_zero,Option.some.injEq] at h1; rw [h0,h1]
   subst ev
   have hmain:=sortMaps_world (cap:=cap) hgb ds (by omega) (by rw [hdl]; exact c4)
   rw [hdl] at hmain
   refine hmain.mono ?_
   rintro en w' ⟨rfl,r,hp,hpw,⟨cur',d1,d2,d3,d4⟩,hoth,hsz,e1,e2,e3⟩
   have hrl:(r.map Subtype.val).length=ms.length:=by rw [List.length_map,hp.length_eq,hdl]
   have hr6:∀ m∈r.map Subtype.val,m.length=6:=fun m hm=>by
    obtain ⟨x,_,rfl⟩:=List.mem_map.1 hm
    exact x.2
   have hw:∀ b,b<w.heap.size→(KLoc.arr ver e 6 (.slice (some ⟨g,0,none⟩) ms.length cap)).block≠some b→w'.heap[b]? = w.heap[b]?:=fun b hb hne=>hoth b hb (fun e=>hne (by rw [e]; rfl))
   have hob2:ObjOK φ (ι.set id (.arr ver e 6 (.slice (some ⟨g,0,none⟩) ms.length cap))) w' (.arr ver e 6 (aggs (r.map Subtype.val))) (.arr ver e 6 (.slice (some ⟨g,0,none⟩) ms.length cap)):=by
    rw [hset _ rfl]
    refine ⟨rfl,rfl,rfl,by decide,r.flatMap enc6,⟨?_,.inr ⟨g,cap,cur',by rw [aggs_length,hrl],Nat.zero_le _,d1,by rw [aggs_length,hrl]; exact c1,c2,by rw [d2]; exact c3,by rw [aggs_length,hrl]; exact d3⟩⟩,?_,?_,fun x hx=>?_⟩
    ·rw [aggs_length,hrl,← d3,List.length_take]
     have:ms.length * 6≤cur'.size:=by rw [d2,c3]; exact Nat.mul_le_mul_right 6 c1
     simp only [Array.length_toList]; omega
    ·rw [flat_aggsI,enc6_flat]
     exact intsV_rel _
    ·rw [flat_aggsI]; simp [ints,PV.ok]
    ·simp only [aggs,List.mem_map] at hx
     obtain ⟨y,⟨z,_,rfl⟩,rfl⟩:=hx
     show (ints z.1).length=6
     rw [ints_length,z.2]
   obtain ⟨j1,j2⟩:=ho.upd hl (KLoc.le_refl _) hsz hw (fun b hb=>.inl hb) (fun b hb=>Nat.lt_of_lt_of_le (ho.lt id _ b hl hb) hsz) hob2
   refine ⟨.tup [],.tuple #[],φ,_,_,rfl,.tup [] [] rfl (by simp),Tr.upd _ hl j2 hsz hw (fun b hb=>.inl hb) e1 e2 e3,j1,hK _ ?_ ?_⟩
   ·rw [← hds]; exact hp.map _
   ·exact List.pairwise_map.2 hpw
end
end
section
section
attribute [local irreducible] ACall PCall KL
theorem slc_cmpL:∀ (xs ys:List Int),xs.length=ys.length→slc xs ys=cmpL xs ys
 | [],[],_=>rfl
 | [],_ :: _,h=>by simp at h
 | _ :: _,[],h=>by simp at h
 | x :: xs,y :: ys,h=>by
  rw [slc,cmpL,slc_cmpL xs ys (by simpa using h)]
theorem slc_mp {a b:List Nat} {n:Nat} (ha:Ok a n) (hb:Ok b n) (h:slc (mp a) (mp b)≤0):nbl n a≤nbl n b:=by
 apply Classical.byContradiction
 intro hn
 have h1:=(ltM_nbl hb ha).2 (by omega)
 have e:slc (mp b) (mp a)=cmpL (b.map fun x:Nat=>(x:Int)) (a.map fun x:Nat=>(x:Int)):=by
  rw [slc_cmpL _ _ (by rw [ha.mp_len,hb.mp_len])]
  simp only [mp,mpN,cmpL,ha.len,hb.len,Int.lt_irrefl,if_false]
  exact cmpL_app _ _ _ (by simp [ha.len,hb.len])
 have h2:=of_decide_eq_true h1
 rw [← e] at h2
 have:=slc_anti (mp a) (mp b)
 omega
theorem sorted_elS {n:Nat} {Q:List (List Nat)} {r:List (List Int)} (hQ:∀ f∈Q,Ok f n) (hd:Q.Nodup) (hp:r.Perm (Q.map mp)) (hs:r.Pairwise fun a b=>slc a b≤0):r=(elS n Q).map mp:=by
 have hr:r=(r.map um).map mp:=by
  rw [List.map_map]
  conv=>lhs; rw [← List.map_id r]
  refine List.map_congr_left fun x hx=>?_
  obtain ⟨f,hf,rfl⟩:=List.mem_map.1 (hp.mem_iff.1 hx)
  show id (mp f)=mp (um (mp f))
  rw [um_mp]; rfl
 have hS:(r.map um).Perm Q:=by
  have:=hp.map um
  rw [List.map_map] at this
  have e:Q.map (um ∘ mp)=Q:=by
   conv=>rhs; rw [← List.map_id Q]
   exact List.map_congr_left fun f _=>um_mp f
  rwa [e] at this
 generalize r.map um=S at hr hS
 subst hr
 have hSO:∀ f∈S,Ok f n:=fun f hf=>hQ f (hS.mem_iff.1 hf)
 have hSd:S.Nodup:=hS.nodup_iff.2 hd
 have hSr:SrM n S:=by
  refine ⟨hSO,?_⟩
  rw [List.pairwise_map] at hs
  rw [List.nodup_iff_pairwise_ne] at hSd
  rw [List.pairwise_iff_getElem] at hs hSd ⊢
  intro i j hi hj hij
  have h1:=hSO _ (List.getElem_mem hi)
  have h2:=hSO _ (List.getElem_mem hj)
  have h3:=slc_mp h1 h2 (hs i j hi hj hij)
  have h4:=hSd i j hi hj hij
  have:nbl n S[i]≠nbl n S[j]:=fun e=>h4 (nbl_inj h1 h2 e)
  omega
 obtain ⟨e1,e2,e3⟩:=elS_ok hQ
 rw [srm_uniq hSr e1 fun f=>by rw [hS.mem_iff,e2]]
theorem FdOk.nodup {n:Nat} {P:List Int} {Q:List (List Nat)} (h:FdOk n P Q) (hQ:∀ f∈Q,Ok f n):Q.Nodup:=by
 rw [List.nodup_iff_pairwise_ne,List.pairwise_iff_getElem]
 intro i j hi hj hij e
 have h1:=(h.2.2 _ (hQ _ (List.getElem_mem hi))).1 i (List.getElem?_eq_getElem hi)
 have h2:=(h.2.2 _ (hQ _ (List.getElem_mem hi))).1 j (by rw [List.getElem?_eq_getElem hj,e])
 omega
def clW (fs:List (List Nat)) (m:List Nat) (Q:List (List Nat)) (V:List (List Int)) (i:Nat):Nat→List (List Int)
 | 0=>V
 | k+1=>match clA fs m Q k with
  | none=>clW fs m Q V i k
  | some R=>if mul m (fs.getD k [])∈R then clW fs m Q V i k else clW fs m Q V i k ++ [(clW fs m Q V i k).getD i [] ++ [(k:Int)]]
def clV (fs:List (List Nat)) (n:Nat):Nat→List (List Int)
 | 0=>[[]]
 | i+1=>match clB fs n i with
  | none=>[]
  | some Q=>match Q[i]? with
   | some m=>clW fs m Q (clV fs n i) i fs.length
   | none=>clV fs n i
def fdP (Q:List (List Nat)) (P0:List Int):List Int:=setP Q P0 Q.length
theorem setP_app {Q:List (List Nat)} {g:List Nat} {P:List Int}:∀ k,k≤Q.length→setP (Q ++ [g]) P k=setP Q P k
 | 0,_=>rfl
 | k+1,h=>by
  rw [setP,setP,setP_app k (by omega)]
  congr 2
  rw [List.getD_eq_getElem?_getD,List.getD_eq_getElem?_getD,List.getElem?_append_left (by omega)]
theorem fdP_push (Q:List (List Nat)) (g:List Nat) (P0:List Int):(fdP Q P0).set (numK g 5) ((Q.length:Int)+1)=fdP (Q ++ [g]) P0:=by
 unfold fdP
 rw [List.length_append,List.length_singleton,setP,setP_app _ (Nat.le_refl _)]
 congr 2
 rw [List.getD_eq_getElem?_getD,List.getElem?_append_right (Nat.le_refl _)]; simp
def P00:List Int:=List.replicate 3125 0
def wdS (S:List (List Nat)) (P:List Int) (W:List (List Int)) (y:Nat):List (List Int):=(S.take y).map fun f=>W.getD (P.getD (numK f 5) 0 - 1).toNat []
theorem wdS_succ {S:List (List Nat)} {P:List Int} {W:List (List Int)} {y:Nat} (h:y<S.length):wdS S P W (y+1)=wdS S P W y ++ [W.getD (P.getD (numK (S.getD y []) 5) 0 - 1).toNat []]:=by
 unfold wdS
 rw [List.take_succ_eq_append_getElem h,List.map_append]
 simp [List.getD_eq_getElem?_getD,h]
def monV (fs:List (List Nat)) (n:Nat) (Q:List (List Nat)):List PV:=moV (.list (aggs ((elS n Q).map mp))) (.list (rows (wdS (elS n Q) (fdP Q P00) (clV fs n Q.length) (elS n Q).length))) (setP (elS n Q) (fdP Q P00) (elS n Q).length)
end
end
section
section
set_option maxRecDepth 100000
def k123_b0:KC:=(.seq (.ops [oP 9 (.bin .lss (.t 8) (.t 7))])
 (.seq (.cond (.t 9) .skip (.exit 0))
 (.seq (.block 1 (.seq (.ops [mV 10 8,mV 4 10])
 (.ops [mV 11 4,mV 12 4,oP 13 (.fieldA 1 (.t 3)),oP 14 (.idxA 5 1 (.t 13) (.t 11)),⟨none,none,.store 1 (.t 14) (.t 12)⟩])))
 (.ops [oP 15 (.bin .add (.t 8) (iC 1)),mV 8 15]))))
def k123:KC:=(.seq (.ops [oP 2 (.alloc [.int .i64 0,.int .i64 0,.int .i64 0,.int .i64 0,.int .i64 0,.int .i64 0])])
 (.seq (.ops [mV 5 0,oP 6 (.build [.int .i64 0,.int .i64 0,.int .i64 0,.int .i64 0,.int .i64 0,.int .i64 0] [(0,1,(.t 5))]),oP 3 (.alloc [.int .i64 0,.int .i64 0,.int .i64 0,.int .i64 0,.int .i64 0,.int .i64 0]),⟨none,none,.store 6 (.t 3) (.t 6)⟩])
 (.seq (.seq (.ops [mV 7 0,oP 8 (.mv (iC 0))])
 (.block 0 (.loop k123_b0)))
 (.seq (.ops [oP 16 (.load true 6 (.t 3)),⟨none,none,.store 6 (.t 2) (.t 16)⟩])
 .ret))))
theorem e123:Ent 123 17 [] [.cell 2 true 6] k123:=ent Tryz.func123
end
section
attribute [local irreducible] ACall PCall KL
theorem p123 (n:Nat) (h1:1≤n) (h5:n≤5):Pure Tryz.prog 123 [.int .i64 n] (.agg (ints (mp (List.range n)))):=by
 refine e123 (by simp) fun _ _=>?_
 simp only [k123,argEnv,go_sem]
 refine KL_ind k123_b0.eq_1 (fun x:Nat=>[(2,.ptr 0 0),(3,.ptr 1 0),(7,.int .i64 n),(8,.int .i64 x)]) (fun x=>[.box (ints [0,0,0,0,0,0]),.box (ints (mpN n (List.range x)))]) (fun x=>x≤n) (fun x=>n - x) [2,3,7,8] 0 (by rfl) (by rfl) (Nat.zero_le _) fun x hi ih=>?_
 have hl:(mpN n (List.range x)).length=6:=mpN_length (by simp; omega)
 try simp only [hl,go_sem]
 refine ⟨fun h=>?_,fun h=>?_⟩
 ·repeat' (first | refine And.intro ?_ ?_ | intro _)
  all_goals (try omega)
  refine ih (x+1) (by omega) (by omega) _ _ (by rfl) ?_
  rw [mpN_pushI (by simp) (by simp; omega),← List.range_succ]
 ·obtain rfl:x=n:=by omega
  refine Kv.Fin.still ⟨?_,rfl⟩
  simp [mp]
end
end
section
section
attribute [local irreducible] ACall PCall KL
theorem p180P (l:List (List Int)) (h6:∀ m∈l,m.length=6) (h0:0<l.length) (hl:l.length≤4294967296):ACall Tryz.prog 180 [.list (aggs l)] [] (fun v s=>v = .ref 0 1 0 l.length∧s = [.arr 1 48 6 (aggs l)]):=by
 cases l with
 | nil=>simp at h0
 | cons x l =>
  refine e180 (by simp) fun _ _=>?_
  simp only [k180,argEnv,go_sem]
  have e:∀ K:Bool→Prop,aIsn (.list (aggs (x :: l))) K=K false:=fun _=>rfl
  rw [e]
  try simp only [go_sem]
  refine ⟨?_,by simp at hl; omega,Kv.Fin.now ⟨rfl,rfl⟩⟩
  rw [okL_aggs]
  exact h6
theorem WG.keepQ {σ σ':Heap} {A:Nat→Prop} {q ver:Nat} {ws:List PV} {L:List (List Int)} (h:WG σ A q ver ws L) (hk:∀ id,id < σ.length→(¬ A id∨id=q)→σ'[id]? = σ[id]?):WG σ' A q ver ws L :=
 ⟨(hk q (List.getElem?_eq_some_iff.1 h.out).1 (.inr rfl)).trans h.out,h.len,fun i w l hw hl=>(h.row i w l hw hl).keep fun id hid hA=>⟨hk id hid (.inl fun h=>hA (.inl h)),hA⟩⟩
theorem clB_ne {fs:List (List Nat)} {n:Nat}:∀ {i:Nat} {Q:List (List Nat)},clB fs n i=some Q→Q≠[]
 | 0,Q,h=>by
  have:[List.range n]=Q:=by simpa [clB] using h
  subst this; simp
 | i+1,Q,h=>by
  rw [clB] at h
  cases hc:clB fs n i with
  | none=>rw [hc] at h; cases h
  | some Q' =>
   have:=clB_ne hc
   rw [hc] at h
   simp only at h
   split at h
   ·obtain ⟨r,hr⟩:=clA_pre _ _ h
    rw [hr]; simp [this]
   ·cases h; exact this
theorem fd_nil {n N:Nat} {P:List Int} (hN:N=3125) (hP:P=List.replicate N 0):FdOk n P []:=by
 have hm:∀ x∈P,x=0:=fun x hx=>by rw [hP] at hx; exact List.eq_of_mem_replicate hx
 refine ⟨by rw [hP,List.length_replicate,hN],fun x hx=>by rw [hm x hx]; omega,fun f hf=>⟨fun j hj=>(by rw [List.getElem?_nil] at hj; cases hj),fun _=>?_⟩⟩
 rw [List.getD_eq_getElem?_getD]
 cases h:P[numK f 5]? with
 | none=>rfl
 | some x=>exact hm x (List.mem_of_getElem? h)
theorem fd_start {n:Nat} {P:List Int} (h1:1≤n) (h5:n≤5) (h:FdOk n P []):FdOk n (P.set (numK (List.range n) 5) 1) [List.range n]:=by
 have:=h.push (range_ok h1 h5) (fun h=>nomatch h) (by decide)
 exact this
set_option maxHeartbeats 4000000 in
theorem p129_in (fs:List (List Nat)) (n:Nat) (h1:1≤n) (h5:n≤5) (hf:∀ f∈fs,Ok f n) (hfl:fs.length≤1000) {K:PV→Heap→Prop}
  (hK1:∀ Q,clB fs n Q.length=some Q→(∀ f∈Q,Ok f n)→Q.length≤300→FdOk n (fdP Q P00) Q→K (.tup [.fptr (monV fs n Q) 0,.int .i64 0]) [])
  (hK2:∀ i,i≤301→clB fs n i=none→K (.tup [.nilptr,.int .i64 3]) []):ACall Tryz.prog 129 [.list (aggs (fs.map mp)),.int .i64 n] [] K:=by
 have h0k:=range_ok h1 h5
 have h06:=h0k.mp_len
 have hN0:=num_lt h0k
 refine e129 (by simp) fun _ _=>?_
 simp only [k129,argEnv,go_sem]
 generalize hP0:List.replicate 3125 (0:Int)=P0
 have hPl:P0.length=3125:=by rw [← hP0]; exact List.length_replicate
 have hFd:FdOk n P0 []:=fd_nil rfl hP0.symm
 have hP1:P0.set (numK (List.range n) 5) 1=fdP [List.range n] P00:=by rw [← hP0]; rfl
 clear hP0
 refine (p123 n h1 h5).go ?_
 try simp only [OpK_eq,HKv,h06,go_sem]
 refine (p179 _ n h0k).pgo ?_
 try simp only [OpK_eq,HKv,h06,hPl,go_sem]
 refine ⟨by omega,by omega,?_⟩
 refine KL_ind k129_b1.eq_1 (fun y:Nat × Nat × Nat × List PV × List (List Int) × List Int × List (List Nat) × Heap=>[(0,.list (aggs (fs.map mp))),(6,.ptr 0 0),(7,.ref 1 y.2.1 0 y.2.2.2.2.2.2.1.length),(8,.ref 2 y.2.2.1 0 y.2.2.2.2.1.length),(9,.int .i64 y.1)]) (fun y=>y.2.2.2.2.2.2.2)
  (fun ⟨i,u1,u2,ws,W,P,Q,σ⟩=>i≤Q.length∧clB fs n i=some Q∧(∀ f∈Q,Ok f n)∧Q.length≤300∧FdOk n P Q∧σ[0]? = some (.box (.nils :: .nils :: ints P))∧σ[1]? = some (.arr u1 48 6 (aggs (Q.map mp)))∧WG σ (fun id=>id=0∨id=1) 2 u2 ws W∧W.length=Q.length∧(∀ w∈W,w.length+1≤W.length)∧P=fdP Q P00∧W=clV fs n i) (fun y=>301 - y.1) [0,6,7,8,9]
  (0,0,0,[.nils],[[]],P0.set (numK (List.range n) 5) 1,[List.range n],_) (by simp [keep]) rfl ?_ fun ⟨i,u1,u2,ws,W,P,Q,σ⟩ ⟨j1,j2,j3,j4,j5,j6,j7,j8,j9,j10,j11,j12⟩ ih=>?_
 ·refine ⟨Nat.zero_le _,rfl,fun f hf'=>?_,by simp,fd_start h1 h5 hFd,rfl,rfl,⟨rfl,rfl,fun j w l hw hl=>?_⟩,rfl,fun w hw=>?_,hP1,rfl⟩
  ·simp only [List.mem_singleton] at hf'; rw [hf']; exact h0k
  ·have e1:=List.mem_of_getElem? hw
   have e2:=List.mem_of_getElem? hl
   simp only [List.mem_singleton] at e1 e2
   subst e1; subst e2
   exact .inl ⟨rfl,rfl⟩
  ·simp only [List.mem_singleton] at hw; subst hw; simp
 try simp only at j1 j2 j3 j4 j5 j6 j7 j8 j9 j10 j11 j12
 try simp only [OpK_eq,HKv,j7,aggs_length,List.length_map,go_sem]
 refine ⟨fun g1=>?_,fun g1=>?_⟩
 ·have hil:i<Q.length:=by omega
  have hm?:Q[i]? = some Q[i]:=List.getElem?_eq_getElem hil
  have hBs:clB fs n (i+1)=clA fs Q[i] Q fs.length:=by
   rw [clB,j2]
   simp only
   rw [hm?]
  have hVs:clV fs n (i+1)=clW fs Q[i] Q (clV fs n i) i fs.length:=by
   rw [clV,j2]
   simp only
   rw [hm?]
  have hmO:=j3 _ (List.getElem_mem hil)
  generalize hm:Q[i]=m at *
  refine KL_ind k129_b0.eq_1 (fun y:Nat × Nat × Nat × List PV × List (List Int) × List Int × List (List Nat) × Heap=>[(0,.list (aggs (fs.map mp))),(6,.ptr 0 0),(7,.ref 1 y.2.1 0 y.2.2.2.2.2.2.1.length),(8,.ref 2 y.2.2.1 0 y.2.2.2.2.1.length),(9,.int .i64 i),(37,.list (aggs (fs.map mp))),(38,.int .i64 fs.length),(39,.int .i64 y.1)]) (fun y=>y.2.2.2.2.2.2.2)
   (fun ⟨k,u1,u2,ws,W,P,R,τ⟩=>k≤fs.length∧clA fs m Q k=some R∧(∀ f∈R,Ok f n)∧R.length≤300∧FdOk n P R∧τ[0]? = some (.box (.nils :: .nils :: ints P))∧τ[1]? = some (.arr u1 48 6 (aggs (R.map mp)))∧WG τ (fun id=>id=0∨id=1) 2 u2 ws W∧W.length=R.length∧(∀ w∈W,w.length+1≤W.length)∧P=fdP R P00∧W=clW fs m Q (clV fs n i) i k) (fun y=>fs.length - y.1) [0,6,7,8,9,37,38,39]
   (0,u1,u2,ws,W,P,Q,σ) (by simp [keep]) rfl ⟨Nat.zero_le _,rfl,j3,j4,j5,j6,j7,j8,j9,j10,j11,j12⟩ fun ⟨k,t1,t2,ws2,W2,P2,R,τ⟩ ⟨l2,l3,l4,l5,l6,l7,l8,l9,l10,l11,l12,l13⟩ ihk=>?_
  try simp only at l2 l3 l4 l5 l6 l7 l8 l9 l10 l11 l12 l13
  obtain ⟨r,hr⟩:=clA_pre k R l3
  have hiR:i<R.length:=by rw [hr,List.length_append]; omega
  have hRi:(R.map mp).getD i []=mp m:=by
   rw [List.getD_eq_getElem?_getD,List.getElem?_map,hr,List.getElem?_append_left hil,hm?]; rfl
  have h6m:=hmO.mp_len
  try simp only [OpK_eq,HKv,l8,aggs_length,List.length_map,go_sem]
  refine ⟨fun g2=>?_,fun g2=>?_⟩
  ·have hkl:k<fs.length:=by omega
   have hfk:=hf _ (List.getElem_mem hkl)
   have h6k:=hfk.mp_len
   have hgk:(fs.map mp).getD k []=mp fs[k]:=by simp [List.getD_eq_getElem?_getD,hkl]
   have hgf:fs.getD k []=fs[k]:=by simp [List.getD_eq_getElem?_getD,hkl]
   have hτ1:=(List.getElem?_eq_some_iff.1 l8).1
   have hτ2:=(List.getElem?_eq_some_iff.1 l9.out).1
   have hx0:∀ X,(τ ++ X)[0]? = some (.box (.nils :: .nils :: ints P2)):=fun X=>(List.getElem?_append_left (by omega)).trans l7
   have hx1:∀ X,(τ ++ X)[1]? = some (.arr t1 48 6 (aggs (R.map mp))):=fun X=>(List.getElem?_append_left hτ1).trans l8
   have hgb:∀ (s:Heap) (a:AObj),(s ++ [a])[s.length]? = some a:=fun s a=>by simp
   have hsb:∀ (s:Heap) (a b:AObj),(s ++ [a]).set s.length b=s ++ [b]:=fun s a b=>by simp [List.set_append_right]
   try simp only [OpK_eq,HKv,l8,hx1,aggs_length,List.length_map,hRi,h6m,hgk,h6k,hgb,hsb,ints_length,hfl,go_sem]
   refine ⟨by omega,fun _=>⟨⟨by omega,Nat.le_refl _⟩,by omega,fun _=>?_⟩⟩
   refine (p124 m fs[k] n hmO hfk).pgo ?_
   have hgO:=hmO.mul hfk
   have hAs:clA fs m Q (k+1)=if mul m fs[k]∈R then some R else if R.length=300 then none else some (R ++ [mul m fs[k]]):=by
    rw [clA,l3]
    simp only
    rw [hgf]
   have hWs:clW fs m Q (clV fs n i) i (k+1)=if mul m fs[k]∈R then W2 else W2 ++ [W2.getD i [] ++ [(k:Int)]]:=by
    rw [clW,l3]
    simp only
    rw [hgf,← l13]
   generalize hg':mul m fs[k]=g at *
   have h6g:=hgO.mp_len
   have hgN:=num_lt hgO
   have hPl2:=l6.1
   have hilg:(ints (mp g)).length=6:=by rw [ints_length,h6g]
   have hτ0:0 < τ.length:=by omega
   generalize hτk:τ ++ [AObj.box (ints (mp fs[k]))] = ρ at *
   have hρ:ρ.length = τ.length+1:=by rw [← hτk,List.length_append]; rfl
   have hρk:∀ id,id < τ.length→ρ[id]? = τ[id]?:=fun id hid=>by rw [← hτk]; exact List.getElem?_append_left hid
   try simp only [OpK_eq,HKv,hgb,hsb,hilg,h6g,go_sem]
   refine (p179 g n hgO).pgo ?_
   have hy0:∀ X,(ρ ++ X)[0]? = some (.box (.nils :: .nils :: ints P2)):=fun X=>(List.getElem?_append_left (by omega)).trans ((hρk 0 (by omega)).trans l7)
   try simp only [OpK_eq,HKv,hgb,hsb,hilg,h6g,hy0,hPl2,ints_length,go_sem]
   have hWρ:∀ X,WG (ρ ++ X) (fun id=>id=0∨id=1) 2 t2 ws2 W2:=fun X=>l9.keep (fun id hid _=>(List.getElem?_append_left (by omega)).trans (hρk id hid)) (by simp)
   have hy1:∀ X,(ρ ++ X)[1]? = some (.arr t1 48 6 (aggs (R.map mp))):=fun X=>(List.getElem?_append_left (by omega)).trans ((hρk 1 (by omega)).trans l8)
   refine ⟨by omega,by omega,fun _=>⟨fun p1=>?_,fun p1=>?_⟩⟩
   ·have hin:=(l6.pos hgO).1 p1
    rw [if_pos hin] at hAs hWs
    exact ⟨by omega,ihk (k+1,t1,t2,ws2,W2,P2,R,_) ⟨by omega,hAs,l4,l5,l6,hy0 _,hy1 _,hWρ _,l10,l11,l12,hWs.symm⟩ (by show fs.length - (k+1)<fs.length - k; omega) _ _ (by simp [keep]) rfl⟩
   ·have hin:g ∉ R:=fun h=>p1 ((l6.pos hgO).2 h)
    rw [if_neg hin] at hAs hWs
    try simp only [OpK_eq,HKv,hy1,aggs_length,List.length_map,go_sem]
    refine ⟨fun h300=>Kv.Fin.still (hK2 (i+1) (by omega) ?_),fun h300=>?_⟩
    ·rw [hBs]
     have hN:clA fs m Q (k+1)=none:=by rw [hAs,if_pos (by omega)]
     have:=clA_none hN (fs.length - (k+1))
     rwa [show k+1+(fs.length - (k+1))=fs.length by omega] at this
    rw [if_neg (by omega)] at hAs
    have hbb:(ρ ++ [AObj.box (ints (mp g))])[ρ.length]? = some (.box (ints (mp g))):=hgb _ _
    refine nm_tree (bb:=ρ.length) (v0:=.list (aggs (fs.map mp))) (v6:=.ptr 0 0) (v37:=.list (aggs (fs.map mp))) (v38:=.int .i64 fs.length) (v39:=.int .i64 k) (hy1 _) (hWρ _) l10 hbb (by omega) h6g (by omega) hiR (by omega) l11 rfl rfl rfl rfl rfl rfl rfl rfl rfl rfl fun env' ρ' w' q1 q2 q3 q4=>?_
    simp only [keep,List.map_cons,List.map_nil,List.cons.injEq,Prod.mk.injEq,true_and,and_true] at q1
    obtain ⟨a0,a6,a7,a8,a9,a12,a37,a38,a39⟩:=q1
    have r0:ρ'[0]? = some (.box (.nils :: .nils :: ints P2)):=(q4 0 (by simp) (by decide) (by decide)).trans (hy0 _)
    have rb:ρ'[ρ.length]? = some (.box (ints (mp g))):=(q4 ρ.length (by simp) (by omega) (by omega)).trans hbb
    try simp only [OpK_eq,HKv,a0,a6,a7,a8,a9,a12,a37,a38,a39,q2,rb,hilg,h6g,aggs_length,List.length_map,go_sem]
    refine (p179 g n hgO).pgo ?_
    try simp only [OpK_eq,HKv,a0,a6,a7,a8,a9,a12,a37,a38,a39,r0,hPl2,ints_length,go_sem]
    have hFn:=l6.push hgO hin (by omega)
    have hc:((R.length+1:Nat):Int)=(R.length:Int)+1:=by omega
    rw [hc]
    have hρ'0:0 < ρ'.length:=(List.getElem?_eq_some_iff.1 r0).1
    have hWgd:(W2.getD i []).length+1≤W2.length:=by
     rw [List.getD_eq_getElem?_getD,List.getElem?_eq_getElem (by omega)]; exact l11 _ (List.getElem_mem _)
    refine ⟨by omega,by omega,by omega,ihk (k+1,t1+1,t2+1,ws2 ++ [w'],W2 ++ [W2.getD i [] ++ [(k:Int)]],_,R ++ [g],_) ⟨by omega,hAs,fun f hf'=>?_,by simp; omega,hFn,List.getElem?_set_self hρ'0,(List.getElem?_set_ne (by decide)).trans q2,q3.keep (fun id hid hA=>List.getElem?_set_ne fun e=>hA (.inl e.symm)) (by simp),by simp [l10],fun x hx=>?_,by rw [l12]; exact fdP_push R g P00,hWs.symm⟩ (by show fs.length - (k+1)<fs.length - k; omega) _ _ (by simp [keep,a0,a6,a7,a8,a9,a37,a38,a39]) rfl⟩
    ·rcases List.mem_append.1 hf' with hf' | hf'
     ·exact l4 f hf'
     ·simp only [List.mem_singleton] at hf'; rw [hf']; exact hgO
    ·rw [List.length_append,List.length_singleton]
     rcases List.mem_append.1 hx with hx | hx
     ·have:=l11 x hx; omega
     ·simp only [List.mem_singleton] at hx
      rw [hx,List.length_append,List.length_singleton]; omega
  ·have hke:k=fs.length:=by omega
   subst hke
   try simp only [go_sem]
   exact ⟨by omega,ih (i+1,t1,t2,ws2,W2,P2,R,τ) ⟨by show i+1≤R.length; omega,by rw [hBs]; exact l3,l4,l5,l6,l7,l8,l9,l10,l11,l12,by rw [hVs]; exact l13⟩ (by show 301 - (i+1)<301 - i; omega) _ _ (by simp [keep]) rfl⟩
 ·obtain rfl:i=Q.length:=by omega
  clear ih
  have hd:=j5.nodup j3
  subst j11; subst j12
  generalize hP:fdP Q P00=P at *
  generalize hW:clV fs n Q.length=W at *
  have hQl:(Q.map mp).length=Q.length:=List.length_map _
  have hσ1:=(List.getElem?_eq_some_iff.1 j7).1
  have hσ2:=(List.getElem?_eq_some_iff.1 j8.out).1
  have hQ0:0<Q.length:=by
   cases Q with
   | nil=>have:=clB_ne j2; exact absurd rfl this
   | cons a l=>simp
  have hcl:=p180P (Q.map mp) (fun x hx=>by obtain ⟨f,hf',rfl⟩:=List.mem_map.1 hx; exact (j3 f hf').mp_len) (by omega) (by omega)
  refine ACall.lend hcl (.cons (Imm.refa' j7 hQl.symm) (.nil _)) fun v s hv=>?_
  obtain ⟨rfl,rfl⟩:=hv
  refine ⟨⟨free_ref _ _ _ _,Free.aggs _ _ _ _⟩,?_⟩
  have k0:(σ ++ [AObj.arr 1 48 6 (aggs (Q.map mp))])[0]? = some (.box (.nils :: .nils :: ints P)):=(List.getElem?_append_left (by omega)).trans j6
  try simp only [OpK_eq,HKv,ren_ref,ren_arr,ren_aggs,Nat.zero_add,k0,hQl,sh_def,go_sem]
  obtain ⟨τ,hτ⟩:∃ τ,τ = List.set (σ ++ [AObj.arr 1 48 6 (aggs (Q.map mp))]) 0 (AObj.box (.ref σ.length 1 0 Q.length :: .nils :: ints P)):=⟨_,rfl⟩
  have hτl:τ.length = σ.length+1:=by rw [hτ,List.length_set,List.length_append]; rfl
  have m0:τ[0]? = some (.box (.ref σ.length 1 0 Q.length :: .nils :: ints P)):=by rw [hτ]; exact List.getElem?_set_self (by simp)
  have mE:τ[σ.length]? = some (.arr 1 48 6 (aggs (Q.map mp))):=by rw [hτ,List.getElem?_set_ne (by omega)]; simp
  have mk:∀ id,id < σ.length→id≠0→τ[id]? = σ[id]?:=fun id h1 h2=>by rw [hτ,List.getElem?_set_ne (Ne.symm h2),List.getElem?_append_left h1]
  rw [← hτ]
  clear hτ
  try simp only [OpK_eq,HKv,m0,go_sem]
  have hsm:=fun (K':PV→Heap→Prop)=>sort_maps (K:=K') (σ:=τ) (ms:=Q.map mp) (e:=48) (ver:=1) (id:=σ.length) (fun x hx=>by obtain ⟨f,hf',rfl⟩:=List.mem_map.1 hx; exact (j3 f hf').mp_len) (by omega) (by omega) mE
  rw [hQl] at hsm
  refine ⟨by omega,hsm _ fun r hr hs=>?_⟩
  obtain rfl:=sorted_elS j3 hd hr hs
  obtain ⟨s1,s2,s3⟩:=elS_ok j3
  have hSl:(elS n Q).length=Q.length:=by
   have:=hr.length_eq
   rw [List.length_map,List.length_map] at this; exact this
  generalize hSE:elS n Q=S at *
  obtain ⟨ρ,hρ⟩:∃ ρ,ρ = τ.set σ.length (.arr 1 48 6 (aggs (S.map mp))):=⟨_,rfl⟩
  have hρl:ρ.length = σ.length+1:=by rw [hρ,List.length_set,hτl]
  have n0:ρ[0]? = some (.box (.ref σ.length 1 0 Q.length :: .nils :: ints P)):=by rw [hρ,List.getElem?_set_ne (by omega)]; exact m0
  have nE:ρ[σ.length]? = some (.arr 1 48 6 (aggs (S.map mp))):=by rw [hρ]; exact List.getElem?_set_self (by omega)
  have nk:∀ id,id < σ.length→id≠0→ρ[id]? = σ[id]?:=fun id h1 h2=>by rw [hρ,List.getElem?_set_ne (by omega)]; exact mk id h1 h2
  rw [← hρ]
  clear hρ
  have nW:WG ρ (fun id=>id=0∨id=1∨σ.length≤id) 2 u2 ws W:=⟨(nk 2 hσ2 (by decide)).trans j8.out,j8.len,fun a w l hw hl=>(j8.row a w l hw hl).keep fun id hid hA=>⟨nk id hid fun e=>hA (.inl (.inl e)),fun h=>by
   rcases h with (h | h | h) | h
   ·exact hA (.inl (.inl h))
   ·exact hA (.inl (.inr h))
   ·omega
   ·exact hA (.inr h)⟩⟩
  have hPl:P.length=3125:=j5.1
  have hSm:∀ f∈S,f∈Q:=fun f hf=>(s2 f).1 hf
  try simp only [OpK_eq,HKv,n0,nE,aggs_length,List.length_map,go_sem]
  refine ⟨by omega,?_⟩
  refine KL_ind k129_b2.eq_1 (fun y:Nat × PV × Heap=>[(6,.ptr 0 0),(8,.ref 2 u2 0 W.length),(98,.ref σ.length 1 0 Q.length),(99,.int .i64 Q.length),(100,.int .i64 y.1)]) (fun y=>y.2.2)
   (fun ⟨y,wv,ω⟩=>y≤S.length∧σ.length < ω.length∧ω[0]? = some (.box (.ref σ.length 1 0 Q.length :: wv :: ints P))∧ω[σ.length]? = some (.arr 1 48 6 (aggs (S.map mp)))∧WG ω (fun id=>id=0∨id=1∨σ.length≤id) 2 u2 ws W∧(y=0∧wv = .nils∨∃ q v ws',wv = .ref q v 0 y∧σ.length<q∧WG ω (fun id=>id=0∨id=1∨id=2∨σ.length≤id) q v ws' (wdS S P W y))) (fun y=>S.length - y.1) [6,8,98,99,100]
   (0,.nils,ρ) (by simp [keep]) rfl ⟨Nat.zero_le _,by omega,n0,nE,nW,.inl ⟨rfl,rfl⟩⟩ fun ⟨y,wv,ω⟩ ⟨o1,o2,o3,o4,o5,o6⟩ ihy=>?_
  ·try simp only at o1 o2 o3 o4 o5 o6
   try simp only [OpK_eq,HKv,o3,o4,aggs_length,List.length_map,hSl,go_sem]
   refine ⟨fun g3=>?_,fun g3=>?_⟩
   ·have hyl:y<S.length:=by omega
    have hgy:(S.map mp).getD y []=mp S[y]:=by simp [List.getD_eq_getElem?_getD,hyl]
    have hgs:S.getD y []=S[y]:=by simp [List.getD_eq_getElem?_getD,hyl]
    have hfO:=s1.1 _ (List.getElem_mem hyl)
    have hfQ:=hSm _ (List.getElem_mem hyl)
    have h6y:=hfO.mp_len
    have hwd:=wdS_succ (P:=P) (W:=W) hyl
    rw [hgs] at hwd
    generalize S[y]=f at *
    have hN:=num_lt hfO
    obtain ⟨jj,hjj,hje⟩:=List.getElem_of_mem hfQ
    have hpl:=(j5.2.2 f hfO).1 jj (by rw [List.getElem?_eq_getElem hjj,hje])
    have hgb:∀ (s:Heap) (a:AObj),(s ++ [a])[s.length]? = some a:=fun s a=>by simp
    have hsb:∀ (s:Heap) (a b:AObj),(s ++ [a]).set s.length b=s ++ [b]:=fun s a b=>by simp [List.set_append_right]
    have hilg:(ints (mp f)).length=6:=by rw [ints_length,h6y]
    have hz0:∀ X,(ω ++ X)[0]? = some (.box (.ref σ.length 1 0 Q.length :: wv :: ints P)):=fun X=>(List.getElem?_append_left (by omega)).trans o3
    have hz2:∀ X,(ω ++ X)[2]? = some (.arr u2 25 1 ws):=fun X=>(List.getElem?_append_left (by omega)).trans o5.out
    try simp only [OpK_eq,HKv,o4,aggs_length,List.length_map,hSl,hgy,h6y,hgb,hsb,hilg,hz0,hz2,go_sem]
    refine ⟨⟨by omega,Nat.le_refl _⟩,by omega,fun _=>⟨by omega,?_⟩⟩
    refine (p179 f n hfO).pgo ?_
    try simp only [OpK_eq,HKv,o4,aggs_length,List.length_map,hSl,hgy,h6y,hgb,hsb,hilg,hz0,hz2,hPl,ints_length,hpl,go_sem]
    have hjt:((jj:Int)+1 - 1).toNat=jj:=by omega
    rw [hjt]
    have hwl:=o5.len
    have hjW:jj<W.length:=by omega
    obtain ⟨w,hw,hWd⟩:=o5.cell (i:=jj) hjW
    have hwc:=hWd.cs
    have hWj:W.getD ((jj:Int)+1 - 1).toNat []=W[jj]:=by rw [hjt,List.getD_eq_getElem?_getD,List.getElem?_eq_getElem hjW]; rfl
    rw [hpl,hWj] at hwd
    generalize W[jj]=wj at hWd hwd
    refine ⟨by omega,by omega,fun _=>⟨⟨by omega,by omega⟩,⟨by omega,by omega,by omega⟩,by omega,fun x hx=>?_⟩⟩
    rw [hw] at hx; cases hx
    rw [hwc.1]
    refine ⟨by simp,fun c hc=>?_⟩
    simp only [List.getElem?_cons_zero,Option.some.injEq] at hc; subst hc
    refine ⟨by rw [hwc.1]; simp [hwc.2],?_⟩
    have hz2W:∀ X,WG (ω ++ X) (fun id=>id=0∨id=1∨σ.length≤id) 2 u2 ws W:=fun X=>o5.keepQ fun id hid _=>List.getElem?_append_left hid
    have hzE:∀ X,(ω ++ X)[σ.length]? = some (.arr 1 48 6 (aggs (S.map mp))):=fun X=>(List.getElem?_append_left o2).trans o4
    have hWdB:∀ X (B:Nat→Prop),(∀ id,id < σ.length→id≠0→id≠1→id≠2→¬ B id)→Wd (ω ++ X) B w wj:=fun X B hB=>hWd.keep fun id hid hA=>⟨List.getElem?_append_left hid,hB id (Nat.lt_of_not_le fun h=>hA (.inl (.inr (.inr h)))) (fun h=>hA (.inl (.inl h))) (fun h=>hA (.inl (.inr (.inl h)))) (fun h=>hA (.inr h))⟩
    have hap:∀ (b:AObj) (K':PV→Heap→Prop),(∀ wv' χ,σ.length < χ.length→χ[0]? = some (.box (.ref σ.length 1 0 Q.length :: wv :: ints P))→χ[σ.length]? = some (.arr 1 48 6 (aggs (S.map mp)))→WG χ (fun id=>id=0∨id=1∨σ.length≤id) 2 u2 ws W→(∃ q v ws',wv' = .ref q v 0 (y+1)∧σ.length<q∧WG χ (fun id=>id=0∨id=1∨id=2∨σ.length≤id) q v ws' (wdS S P W (y+1)))→K' wv' χ)→aApp 25 1 wv (.list [w]) (ω ++ [b]) K':=fun b K' hK'=>by
     rcases o6 with ⟨rfl,rfl⟩ | ⟨q,v,ws',rfl,hq,hG⟩
     ·have hok:okL 1 [w]=True:=by simp [okL,hwc.1,hwc.2]
      simp only [aApp_nils,aNews_list,hok,true_and,AppN_def]
      have h0:∀ id,id < ω.length→(ω ++ [b] ++ [AObj.arr 0 25 1 [w]])[id]? = ω[id]?:=fun id hid=>by rw [List.append_assoc]; exact List.getElem?_append_left hid
      refine ⟨by simp,hK' _ _ (by simp; omega) ((h0 0 (by omega)).trans o3) ((h0 _ o2).trans o4) (by rw [List.append_assoc]; exact hz2W _) ⟨_,0,[w],rfl,by simp; omega,?_⟩⟩
      rw [hwd,show wdS S P W 0 = [] by rfl,List.nil_append]
      refine ⟨by simp,rfl,fun a w' l' hw' hl'=>?_⟩
      have e1:=List.mem_of_getElem? hw'
      have e2:=List.mem_of_getElem? hl'
      simp only [List.mem_singleton] at e1 e2
      subst e1; subst e2
      rw [List.append_assoc]
      exact hWdB _ _ fun id h1 h2 h3 h4 h=>by
       simp only [List.length_append] at h
       omega
     ·have hwl':(wdS S P W y).length=y:=by simp [wdS]; omega
      have hG':WG (ω ++ [b]) (fun id=>id=0∨id=1∨id=2∨σ.length≤id) q v ws' (wdS S P W y):=hG.keepQ fun id hid _=>List.getElem?_append_left hid
      have hpu:=hG'.push (l:=wj) (w:=w) (hWdB _ _ fun id h1 h2 h3 h4 h=>by omega) (by omega) (K:=K') fun hn=>hK' _ _ (by simp; omega) ((List.getElem?_set_ne (by omega)).trans (hz0 _)) ((List.getElem?_set_ne (by omega)).trans (hzE _)) ((hz2W [b]).keepQ fun id hid h=>List.getElem?_set_ne fun e=>by rcases h with h | h <;> omega) ⟨q,v+1,_,by rw [hwl'],hq,by rw [hwd]; exact hn⟩
      rwa [hwl'] at hpu
    refine hap _ _ fun wv' χ x1 x2 x3 x4 x5=>?_
    try simp only [OpK_eq,HKv,x2,hPl,ints_length,go_sem]
    obtain ⟨q,v,ws',rfl,hq,hG⟩:=x5
    refine ⟨⟨rfl,rfl⟩,by omega,ihy (y+1,.ref q v 0 (y+1),_) ⟨by omega,by rw [List.length_set]; exact x1,List.getElem?_set_self (by omega),(List.getElem?_set_ne (by omega)).trans x3,x4.keepQ fun id hid h=>List.getElem?_set_ne fun e=>?_,.inr ⟨q,v,ws',rfl,hq,hG.keepQ fun id hid h=>List.getElem?_set_ne fun e=>?_⟩⟩ (by show S.length - (y+1)<S.length - y; omega) _ _ (by simp [keep]) rfl⟩
    ·rcases h with h | h
     ·exact h (.inl e.symm)
     ·omega
    ·rcases h with h | h
     ·exact h (.inl e.symm)
     ·omega
   ·have hyS:y=S.length:=by omega
    subst hyS
    rcases o6 with ⟨e0,_⟩ | ⟨q,v,ws',rfl,hq,hG⟩
    ·omega
    refine ⟨by omega,?_⟩
    have hl0:(setP S P 0)=P:=rfl
    refine KL_ind k129_b3.eq_1 (fun y:Nat × Heap=>[(6,.ptr 0 0),(128,.ref σ.length 1 0 Q.length),(129,.int .i64 Q.length),(130,.int .i64 y.1)]) (fun y=>y.2)
     (fun ⟨y,ξ⟩=>y≤S.length∧σ.length < ξ.length∧ξ[0]? = some (.box (.ref σ.length 1 0 Q.length :: .ref q v 0 S.length :: ints (setP S P y)))∧ξ[σ.length]? = some (.arr 1 48 6 (aggs (S.map mp)))∧WG ξ (fun id=>id=0∨id=1∨id=2∨σ.length≤id) q v ws' (wdS S P W S.length)) (fun y=>S.length - y.1) [6,128,129,130]
     (0,ω) (by simp [keep]) rfl ⟨Nat.zero_le _,o2,o3,o4,hG⟩ fun ⟨y,ξ⟩ ⟨z1,z2,z3,z4,z5⟩ ihz=>?_
    try simp only at z1 z2 z3 z4 z5
    obtain ⟨hsl,_⟩:=setP_spec s1 hPl y z1
    try simp only [OpK_eq,HKv,z3,z4,aggs_length,List.length_map,hSl,go_sem]
    refine ⟨fun g4=>?_,fun g4=>?_⟩
    ·have hyl:y<S.length:=by omega
     have hgy:(S.map mp).getD y []=mp S[y]:=by simp [List.getD_eq_getElem?_getD,hyl]
     have hgs:S.getD y []=S[y]:=by simp [List.getD_eq_getElem?_getD,hyl]
     have hfO:=s1.1 _ (List.getElem_mem hyl)
     have h6y:=hfO.mp_len
     have hsp:setP S P (y+1)=(setP S P y).set (numK S[y] 5) ((y:Int)+1):=by rw [setP,hgs]
     generalize S[y]=f at *
     have hN:=num_lt hfO
     have hgb:∀ (s:Heap) (a:AObj),(s ++ [a])[s.length]? = some a:=fun s a=>by simp
     have hsb:∀ (s:Heap) (a b:AObj),(s ++ [a]).set s.length b=s ++ [b]:=fun s a b=>by simp [List.set_append_right]
     have hilg:(ints (mp f)).length=6:=by rw [ints_length,h6y]
     have hz0:∀ X,(ξ ++ X)[0]? = some (.box (.ref σ.length 1 0 Q.length :: .ref q v 0 S.length :: ints (setP S P y))):=fun X=>(List.getElem?_append_left (by omega)).trans z3
     try simp only [OpK_eq,HKv,z4,aggs_length,List.length_map,hSl,hgy,h6y,hgb,hsb,hilg,hz0,go_sem]
     refine ⟨⟨by omega,Nat.le_refl _⟩,by omega,fun _=>⟨by omega,?_⟩⟩
     refine (p179 f n hfO).pgo ?_
     try simp only [OpK_eq,HKv,hgb,hsb,hilg,hz0,hsl,ints_length,go_sem]
     refine ⟨by omega,by omega,by omega,ihz (y+1,_) ⟨by omega,by simp; omega,by rw [hsp]; exact List.getElem?_set_self (by simp),(List.getElem?_set_ne (by omega)).trans ((List.getElem?_append_left z2).trans z4),(z5.keepQ fun id hid _=>List.getElem?_append_left hid:WG (ξ ++ [AObj.box (ints (mp f))]) _ _ _ _ _).keepQ fun id hid h=>List.getElem?_set_ne fun e=>?_⟩ (by show S.length - (y+1)<S.length - y; omega) _ _ (by simp [keep]) rfl⟩
     rcases h with h | h
     ·exact h (.inl e.symm)
     ·omega
    ·obtain rfl:y=S.length:=by omega
     have hwl':(wdS S P W S.length).length=S.length:=by simp [wdS]
     have hsl':(S.map mp).length=S.length:=List.length_map _
     have hK:=hK1 Q j2 j3 j4 (by rw [hP]; exact j5)
     unfold monV moV at hK
     rw [hSE,hP,hW] at hK
     refine Kv.Fin.freeze (Imm.tupL (.cons (.ptr 0 0 _ _ z3 (by simp only [List.length_cons]) ?_ fun a c d hc hd=>?_) (.cons Imm.still (.nil _)))) hK
     ·simp [ints,PV.ok]
     ·match a,hc,hd with
      | 0,hc,hd =>
       simp only [List.getElem?_cons_zero,Option.some.injEq] at hc hd
       subst hc; subst hd
       exact Imm.refa' z4 (by omega)
      | 1,hc,hd =>
       simp only [List.getElem?_cons_succ,List.getElem?_cons_zero,Option.some.injEq] at hc hd
       subst hc; subst hd
       exact z5.immN hwl'.symm
      | a+2,hc,hd =>
       simp only [List.getElem?_cons_succ] at hc hd
       rw [hc] at hd; cases hd
       obtain ⟨x,_,rfl⟩:=ints_get hc
       exact Imm.still
theorem p129 (fs:List (List Nat)) (n:Nat) (h1:1≤n) (h5:n≤5) (hf:∀ f∈fs,Ok f n) (hfl:fs.length≤1000) :
  Pure Tryz.prog 129 [.list (aggs (fs.map mp)),.int .i64 n] (match clR fs n with | none=>.tup [.nilptr,.int .i64 3] | some Q=>.tup [.fptr (monV fs n Q) 0,.int .i64 0]):=by
 refine p129_in fs n h1 h5 hf hfl (fun Q c1 c2 c3 c4=>?_) (fun i c0 c1=>?_)
 ·have hR:clR fs n=some Q:=by
   have:=clB_stop c1 (Nat.le_refl _) (301 - Q.length)
   rwa [show Q.length+(301 - Q.length)=301 by omega] at this
  rw [hR]
  exact ⟨rfl,rfl⟩
 ·have hR:clR fs n=none:=by
   have:=clB_none c1 (301 - i)
   rwa [show i+(301 - i)=301 by omega] at this
  rw [hR]
  exact ⟨rfl,rfl⟩
end
end
section
section
attribute [local irreducible] ACall PCall KL
theorem clA_nd {fs:List (List Nat)} {m:List Nat} {Q:List (List Nat)} (hQ:Q.Nodup):∀ k R,clA fs m Q k=some R→R.Nodup
 | 0,R,h=>by
  have:Q=R:=by simpa [clA] using h
  rw [← this]; exact hQ
 | k+1,R,h=>by
  unfold clA at h
  cases hc:clA fs m Q k with
  | none=>rw [hc] at h; cases h
  | some R' =>
   have hr:=clA_nd hQ k R' hc
   rw [hc] at h
   simp only at h
   split at h
   ·cases h; exact hr
   ·rename_i hn
    split at h
    ·cases h
    ·cases h
     rw [List.nodup_append]
     exact ⟨hr,by simp,fun a ha b hb e=>by simp only [List.mem_singleton] at hb; subst hb; subst e; exact hn ha⟩
theorem clB_nd {fs:List (List Nat)} {n:Nat}:∀ i Q,clB fs n i=some Q→Q.Nodup
 | 0,Q,h=>by
  have:[List.range n]=Q:=by simpa [clB] using h
  rw [← this]; simp
 | i+1,Q,h=>by
  rw [clB] at h
  cases hc:clB fs n i with
  | none=>rw [hc] at h; cases h
  | some Q' =>
   have hr:=clB_nd i Q' hc
   rw [hc] at h
   simp only at h
   split at h
   ·exact clA_nd hr _ _ h
   ·cases h; exact hr
theorem fd_of {n:Nat}:∀ (k:Nat) (Q:List (List Nat)),Q.length=k→k≤300→Q.Nodup→(∀ f∈Q,Ok f n)→FdOk n (fdP Q P00) Q
 | 0,Q,hk,_,_,_=>by
  obtain rfl:=List.eq_nil_of_length_eq_zero hk
  exact fd_nil (N:=3125) rfl (show P00=List.replicate 3125 0 by unfold P00; rfl)
 | k+1,Q,hk,h3,hd,hO=>by
  have hne:Q≠[]:=fun e=>by rw [e] at hk; simp at hk
  have e:=List.dropLast_concat_getLast hne
  generalize Q.dropLast=R at e
  generalize Q.getLast hne=g at e
  subst e
  rw [List.nodup_append] at hd
  have hR:R.length=k:=by simpa using hk
  have:=fd_of k R hR (by omega) hd.1 fun f hf=>hO f (by simp [hf])
  rw [← fdP_push]
  exact this.push (hO g (by simp)) (fun h=>hd.2.2 g h g (by simp) rfl) (by omega)
theorem monOk (fs:List (List Nat)) (n:Nat) (h1:1≤n) (h5:n≤5) (hf:∀ f∈fs,Ok f n) (hfl:fs.length≤1000):MonOk fs n:=by
 have hM:=p129 fs n h1 h5 hf hfl
 unfold MonOk
 cases hR:clR fs n with
 | none=>rw [hR] at hM; exact hM
 | some Q =>
  rw [hR] at hM
  obtain ⟨c3,c4⟩:=clB_okQ h1 h5 hf _ _ hR
  obtain ⟨s1,s2,s3⟩:=elS_ok c3
  have hF:=fd_of Q.length Q rfl (by omega) (clB_nd _ _ hR) c3
  exact ⟨_,_,inferInstance,setP_ok s1 (by omega) hF.1 hF.2.1 fun f h4 h5=>(hF.2.2 f h4).2 fun h=>h5 ((s2 f).2 h),hM⟩
attribute [local irreducible] clR
end
end
section
section
set_option maxRecDepth 100000
def k41:KC:=(.seq (.ops [oP 2 (.mv (.c (.bool false))),oP 3 (.mv (iC 0))])
 (.seq (.seq (.ops [mV 4 0,oP 5 (.call (fC 106) [(.t 4)]),oP 6 (.not (.t 5))])
 (.cond (.t 6) (.seq (.ops [oP 2 (.mv (.c (.bool false))),oP 3 (.mv (iC 2))])
 .ret) .skip))
 (.seq (.ops [mV 7 0,oP 8 (.call (fC 107) [(.t 7)]),mV 2 8,oP 3 (.mv (iC 0))])
 .ret)))
theorem e41:Ent 41 9 [] [.t 2,.t 3] k41:=ent Tryz.func41
def k107_b0:KC:=(.seq (.ops [oP 19 (.bin .lss (.t 18) (.t 17))])
 (.seq (.cond (.t 19) .skip (.exit 4))
 (.seq (.block 5 (.seq (.ops [mV 20 18,mV 5 20])
 (.seq (.draw [mV 21 0,mV 22 3,oP 23 (.idxS 1 (.t 21) (.t 22)),oP 24 (.load false 1 (.t 23)),mV 25 0,mV 26 4,oP 27 (.idxS 1 (.t 25) (.t 26)),oP 28 (.load false 1 (.t 27)),mV 29 5,oP 30 (.idxS 1 (.t 28) (.t 29)),oP 31 (.load false 1 (.t 30)),oP 32 (.idxS 1 (.t 24) (.t 31)),oP 33 (.load false 1 (.t 32)),mV 34 0,mV 35 0,mV 36 3,oP 37 (.idxS 1 (.t 35) (.t 36)),oP 38 (.load false 1 (.t 37)),mV 39 4,oP 40 (.idxS 1 (.t 38) (.t 39)),oP 41 (.load false 1 (.t 40)),oP 42 (.idxS 1 (.t 34) (.t 41)),oP 43 (.load false 1 (.t 42)),mV 44 5,oP 45 (.idxS 1 (.t 43) (.t 44)),oP 46 (.load false 1 (.t 45)),oP 47 (.bin .neq (.t 33) (.t 46))])
 (.cond (.t 47) (.seq (.ops [oP 2 (.mv (.c (.bool false)))])
 .ret) .skip))))
 (.ops [oP 48 (.bin .add (.t 18) (iC 1)),mV 18 48]))))
def k107_b1:KC:=(.seq (.ops [oP 14 (.bin .lss (.t 13) (.t 12))])
 (.seq (.cond (.t 14) .skip (.exit 2))
 (.seq (.block 3 (.seq (.ops [mV 15 13,mV 4 15])
 (.seq (.ops [mV 16 0,oP 17 (.len false (.t 16)),oP 18 (.mv (iC 0))])
 (.block 4 (.loop k107_b0)))))
 (.ops [oP 49 (.bin .add (.t 13) (iC 1)),mV 13 49]))))
def k107_b2:KC:=(.seq (.ops [oP 9 (.bin .lss (.t 8) (.t 7))])
 (.seq (.cond (.t 9) .skip (.exit 0))
 (.seq (.block 1 (.seq (.ops [mV 10 8,mV 3 10])
 (.seq (.ops [mV 11 0,oP 12 (.len false (.t 11)),oP 13 (.mv (iC 0))])
 (.block 2 (.loop k107_b1)))))
 (.ops [oP 50 (.bin .add (.t 8) (iC 1)),mV 8 50]))))
def k107:KC:=(.seq (.ops [oP 2 (.mv (.c (.bool false)))])
 (.seq (.seq (.ops [mV 6 0,oP 7 (.len false (.t 6)),oP 8 (.mv (iC 0))])
 (.block 0 (.loop k107_b2)))
 (.seq (.ops [mV 51 0,oP 52 (.call (fC 172) [(.t 51)]),oP 53 (.bin .geq (.t 52) (iC 0)),mV 2 53])
 .ret)))
theorem e107:Ent 107 54 [] [.t 2] k107:=ent Tryz.func107
end
section
attribute [local irreducible] ACall PCall KL
def ascC (t:List (List Int)) (a b c:Nat):Bool:=decide (tat t (tat t a b).toNat c=tat t a (tat t b c).toNat)
def ascB (t:List (List Int)) (a b:Nat):Bool:=(List.range t.length).all (ascC t a b)
def ascA (t:List (List Int)) (a:Nat):Bool:=(List.range t.length).all (ascB t a)
def asso (t:List (List Int)):Bool:=(List.range t.length).all (ascA t)
def monB (t:List (List Int)):Bool:=decide (0≤idn t) && asso t
theorem asc_bad {t:List (List Int)} {a b c:Nat} (ha:a<t.length) (hb:b<t.length) (hc:c<t.length) (h:¬ (t.getD ((t.getD a []).getD b 0).toNat []).getD c 0=(t.getD a []).getD ((t.getD b []).getD c 0).toNat 0):asso t=false:=by
 refine not_range ha (not_range hb (not_range hc ?_))
 simpa [ascC,tat] using h
theorem p107 (t:List (List Int)) (h:isTab t=true):Pure Tryz.prog 107 [.list (rows t)] (.bool (monB t)):=by
 obtain ⟨hn,hsq⟩:=tab_sq h
 refine e107 (by simp) fun _ _=>?_
 simp only [k107,argEnv,go_sem,↓reduceIte,Nat.reduceEqDiff,Nat.reduceAdd,reduceCtorEq]
 refine KL_ind k107_b2.eq_1 (fun x:Nat=>[(8,.int .i64 x),(7,.int .i64 t.length),(0,.list (rows t))]) (fun _=>[]) (fun x=>x≤t.length∧(List.range x).all (ascA t)=true) (fun x=>t.length - x) [8,7,0] 0 rfl rfl ⟨Nat.zero_le _,by simp⟩ fun x ⟨hx,hall⟩ ihx=>?_
 simp only [go_sem,↓reduceIte,Nat.reduceEqDiff,Nat.reduceAdd,reduceCtorEq]
 refine ⟨fun h1=>?_,fun h1=>?_⟩
 ·have hsx:=hsq x (by omega)
  refine KL_ind k107_b1.eq_1 (fun y:Nat=>[(13,.int .i64 y),(12,.int .i64 t.length),(3,.int .i64 x),(8,.int .i64 x),(7,.int .i64 t.length),(0,.list (rows t))]) (fun _=>[]) (fun y=>y≤t.length∧(List.range y).all (ascB t x)=true) (fun y=>t.length - y) [13,12,3,8,7,0] 0 rfl rfl ⟨Nat.zero_le _,by simp⟩ fun y ⟨hy,hall2⟩ ihy=>?_
  simp only [go_sem,↓reduceIte,Nat.reduceEqDiff,Nat.reduceAdd,reduceCtorEq]
  refine ⟨fun h2=>?_,fun h2=>?_⟩
  ·have hsy:=hsq y (by omega)
   refine KL_ind k107_b0.eq_1 (fun z:Nat=>[(18,.int .i64 z),(17,.int .i64 t.length),(4,.int .i64 y),(13,.int .i64 y),(12,.int .i64 t.length),(3,.int .i64 x),(8,.int .i64 x),(7,.int .i64 t.length),(0,.list (rows t))]) (fun _=>[]) (fun z=>z≤t.length∧(List.range z).all (ascC t x y)=true) (fun z=>t.length - z) [18,17,4,13,12,3,8,7,0] 0 rfl rfl ⟨Nat.zero_le _,by simp⟩ fun z ⟨hz,hall3⟩ ihz=>?_
   simp only [go_sem,↓reduceIte,Nat.reduceEqDiff,Nat.reduceAdd,reduceCtorEq]
   refine ⟨fun h3=>?_,fun h3=>?_⟩
   ·have hv:=tab_at h (i:=x) (j:=y) (by omega) (by omega)
    have hw:=tab_at h (i:=y) (j:=z) (by omega) (by omega)
    unfold tat at hv hw
    have hsv:=hsq ((t.getD x []).getD y 0).toNat (by omega)
    repeat' (first | refine And.intro ?_ ?_ | intro _)
    all_goals (try omega)
    ·exact Kv.Fin.now ⟨by rw [monB,asc_bad (a:=x) (b:=y) (c:=z) (by omega) (by omega) (by omega) (fun e=>absurd e.symm (by assumption)),Bool.and_false],rfl⟩
    ·refine ihz (z+1) ⟨by omega,?_⟩ (by omega) _ _ rfl rfl
     rw [all_range_succ,hall3,Bool.true_and]
     exact decide_eq_true (by unfold tat; first | assumption | exact Eq.symm (by assumption))
   ·obtain rfl:z=t.length:=by omega
    refine ⟨by omega,?_⟩
    refine ihy (y+1) ⟨by omega,?_⟩ (by omega) _ _ rfl rfl
    rw [all_range_succ,hall2,Bool.true_and]
    exact hall3
  ·obtain rfl:y=t.length:=by omega
   refine ⟨by omega,?_⟩
   refine ihx (x+1) ⟨by omega,?_⟩ (by omega) _ _ rfl rfl
   rw [all_range_succ,hall,Bool.true_and]
   exact hall2
 ·obtain rfl:x=t.length:=by omega
  refine (p172 t h).use (.int _ _) (.cons (.listr _ _) (.nil _)) ?_
  simp only [go_sem,↓reduceIte,Nat.reduceEqDiff,Nat.reduceAdd,reduceCtorEq]
  exact Kv.Fin.now ⟨by rw [monB,asso,hall,Bool.and_true],rfl⟩
theorem p41 (t:List (List Int)) (ht:t.length≤1048576) (hl:∀ r∈t,r.length≤1048576):Pure Tryz.prog 41 [.list (rows t)] (.tup [.bool (isTab t && monB t),.int .i64 (if isTab t=true then 0 else 2)]):=by
 refine e41 (by simp) fun _ _=>?_
 simp only [k41,argEnv,go_sem,↓reduceIte,Nat.reduceEqDiff,Nat.reduceAdd,reduceCtorEq]
 refine (p106 t ht hl).use (.bool _) (.cons (.listr _ _) (.nil _)) ?_
 simp only [go_sem,↓reduceIte,Nat.reduceEqDiff,Nat.reduceAdd,reduceCtorEq]
 refine ⟨fun h=>?_,fun h=>?_⟩
 ·exact Kv.Fin.now ⟨by simp [h],rfl⟩
 ·refine (p107 t h).use (.bool _) (.cons (.listr _ _) (.nil _)) ?_
  simp only [go_sem,↓reduceIte,Nat.reduceEqDiff,Nat.reduceAdd,reduceCtorEq]
  exact Kv.Fin.now ⟨by simp [h],rfl⟩
end
end
section
section
attribute [local irreducible] ACall PCall KL
def colL (t:List (List Int)) (a x:Nat):List Int:=(List.range x).map fun b=>tat t b a
@[simp] theorem colL_length (t:List (List Int)) (a x:Nat):(colL t a x).length=x:=by simp [colL]
def opp (t:List (List Int)) (x:Nat):List (List Int):=(List.range x).map fun a=>colL t a t.length
@[simp] theorem opp_length (t:List (List Int)) (x:Nat):(opp t x).length=x:=by simp [opp]
end
end
end Go.Proofs.YtcfmmmloeaggmaaGreat
