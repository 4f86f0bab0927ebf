/- Several texts of this session as one, less what the claim does not need. -/
import Derived.Test.YtcfmmmloeaggmaaGreatCb
import Derived.Test.YtcfmmmloeaggmaaGreatZ12
import Derived.Test.YtcfmmmloeaggmaaGreatZ14
import Derived.Test.YtcfmmmloeaggmaaGreatZ10
namespace Go.Proofs.YtcfmmmloeaggmaaGreat
open Go.Kv
set_option linter.unusedVariables false
set_option linter.unusedSimpArgs false
section
section
attribute [local irreducible] ACall PCall KL
attribute [local go_sem] OpK_eq HKv
theorem p30 {l:List Int} (hl:Byt l) {K:PV→Heap→Prop} (hK:∀ (t':List (List Int)) (cl:List Int),t'.length≤7→Mp6 t'→cl.length≤301→K (.tup [.list (aggs t'),.list (ints cl)]) []):ACall Tryz.prog 30 [.list (u8s l)] [] K:=by
 refine e30 (by simp) fun _ _=>?_
 simp only [k30,argEnv,go_sem]
 refine p81 hl fun t' cl h1 h2 h3=>?_
 try simp only [go_sem]
 exact Kv.Fin.still (hK t' cl h1 h2 h3)
theorem p33m:Pure Tryz.prog 33 [.nils,.list (rows [])] (.bool true):=by
 refine e33 (by simp) fun _ _=>?_
 simp only [k33,argEnv,go_sem]
 refine KL_ind k33_b0.eq_1 (fun x:Unit=>[(0,.nils),(1,.list (rows [])),(5,.int .i64 0)]) (fun _=>[]) (fun x=>True) (fun x=>0) [0,1,5] () (by simp [keep]) rfl trivial fun x hx ih=>?_
 try simp only [go_sem]
 exact Kv.Fin.still ⟨rfl,rfl⟩
theorem qu_loc (t:List (List Int)) (ht:t.length≤7) (h6:Mp6 t) (cl:List Int) (hcl:cl.length≤301):∃ (V:PV) (c:Int),Still V∧Pure Tryz.prog 31 [.list (aggs t),.list (ints cl)] (.tup [V,.int .i64 c])∧Pure Tryz.prog 32 [.list (aggs t),.list (ints cl)] (.tup [V,.int .i64 c])∧Pure Tryz.prog 33 [V,V] (.bool true)∧((c≠0∧V = .nils)∨(c=0∧∃ G:List (List Int),V = .list (rows G)∧Pure Tryz.prog 41 [.list (rows G)] (.tup [.bool true,.int .i64 0]))):=by
 have hm6:∀ r∈t,r.length=6:=h6
 rcases gv_loc t (by omega) hm6 with ⟨c,hx⟩ | ⟨T,N,hv⟩
 ·exact ⟨.nils,c,inferInstance,p31_bad hx cl,p32_bad hx cl,p33nn,.inl ⟨hx.ne,rfl⟩⟩
 ·have hi:=p31_in hv cl (by omega)
  have hs:=p32_in hv cl (by omega)
  unfold quoV at hi hs
  by_cases hc:(clOk cl 0 && decide ((cl.length:Int)=N))=true
  ·rw [if_pos hc] at hi hs
   by_cases hb:cloB T N cl=true
   ·rw [if_pos hb] at hi hs
    have hcn:=cn_of hc
    obtain ⟨_,m1,m2,_⟩:=MC_ok hcn hv.pos
    have h30:=hv.n30
    obtain ⟨n,S,hM,e⟩:=hv.mon
    have hmon:monB T=true:=by rw [e]; exact hM.monB
    have hq1:=quo_tab hv.tbl hcn hv.pos (by omega)
    have hq2:=quo_mon hv.tbl hcn hv.pos (cloB_of hb) hmon
    have hr:∀ r∈quoC T cl,r.length≤1000:=fun r hr=>by
     obtain ⟨a,_,rfl⟩:=List.mem_map.1 hr
     simp; omega
    have hI:=p41 (quoC T cl) (by rw [quo_len]; omega) fun r h=>by have:=hr r h; omega
    rw [hq1,hq2] at hI
    exact ⟨_,0,inferInstance,hi,hs,p33 _ (by rw [quo_len]; omega) hr,.inr ⟨rfl,_,rfl,hI⟩⟩
   ·rw [if_neg hb] at hi hs
    exact ⟨_,5,inferInstance,hi,hs,p33nn,.inl ⟨by decide,rfl⟩⟩
  ·rw [if_neg hc] at hi hs
   exact ⟨_,2,inferInstance,hi,hs,p33nn,.inl ⟨by decide,rfl⟩⟩
structure CoV (t:List (List Int)) (A:PV) (ca:Int) (PI PS LI LS:PV) (cp:Int):Prop where
 sa:Still A
 sp:Still PI∧Still PS
 sl:Still LI∧Still LS
 ia:Pure Tryz.prog 35 [.list (aggs t)] (.tup [A,.int .i64 ca])
 oa:Pure Tryz.prog 36 [.list (aggs t)] (.tup [A,.int .i64 ca])
 ip:Pure Tryz.prog 37 [.list (aggs t)] (.tup [PI,.int .i64 cp])
 op:Pure Tryz.prog 38 [.list (aggs t)] (.tup [PS,.int .i64 cp])
 il:Pure Tryz.prog 39 [.list (aggs t)] (.tup [LI,.int .i64 cp])
 ol:Pure Tryz.prog 40 [.list (aggs t)] (.tup [LS,.int .i64 cp])
 ra:Pure Tryz.prog 33 [A,A] (.bool true)
 rp:Pure Tryz.prog 33 [PI,PS] (.bool true)
 rl:Pure Tryz.prog 33 [LI,LS] (.bool true)
def CoL (A:PV) (ca:Int) (PI LI:PV) (cp:Int):Prop:=(cp≠0∧ca≠0∧PI = .nils∧LI = .nils∧A = .nils)∨(cp=0∧((PI = .nils∧LI = .nils∧((ca≠0∧A = .nils)∨(ca=0∧∃ S:List (List Int),A = .list (rows S)∧S.length≤300∧1≤S.length)))∨∃ L M:List (List Int),PI = .list (rows L)∧LI = .list (rows M)∧L.length≤900∧(∀ r∈L,r.length≤30)∧M.length≤L.length∧1≤M.length∧((ca≠0∧A = .nils)∨(ca=0∧∃ S:List (List Int),A = .list (rows S)∧S.length≤300∧(∀ r∈S,r.length≤30)∧L.length+1≤S.length∧∀ x∈L,x∈S))))
theorem co_loc (t:List (List Int)) (ht:t.length≤7) (h6:Mp6 t):∃ (A PI PS LI LS:PV) (ca cp:Int),CoV t A ca PI PS LI LS cp∧CoL A ca PI LI cp:=by
 have hm6:∀ r∈t,r.length=6:=h6
 rcases gv_loc t (by omega) hm6 with ⟨c,hx⟩ | ⟨T,N,hv⟩
 ·exact ⟨.nils,.nils,.nils,.nils,.nils,c,c,⟨inferInstance,⟨inferInstance,inferInstance⟩,⟨inferInstance,inferInstance⟩,p35_bad hx,p36_bad hx,p37_bad hx,p38_bad hx,p39_bad hx,p40_bad hx,p33nn,p33nn,p33nn⟩,.inl ⟨hx.ne,hx.ne,rfl,rfl,rfl⟩⟩
 ·have h30:=hv.n30
  have hpos:=hv.pos
  have hT:=hv.tbl
  have hocn:=onesC_cn hT
  have hol:=onesC_len (T:=T) h30
  have hjc:=jgC_cn hT
  have hz:=trv_cn N
  have hia:=p35_in hv
  have hoa:=p36_in hv
  have hip:=p37_in hv
  have hop:=p38_in hv
  have hil:=p39_in hv
  have hol2:=p40_in hv
  have hLr:∀ r∈onesC T N,r.length≤30:=fun r hr=>by have:=(hocn r hr).1.len; omega
  have hMl:(lstC (onesC T N)).length≤(onesC T N).length:=List.length_filter_le _ _
  have hMr:∀ r∈lstC (onesC T N),r.length≤1000:=fun r hr=>by have:=hLr r (List.mem_filter.1 hr).1; omega
  -- all of them
  obtain ⟨A,ca,hsa,hA,hA9,hAA⟩:∃ (A:PV) (ca:Int),Still A∧allV T N = .tup [A,.int .i64 ca]∧Pure Tryz.prog 33 [A,A] (.bool true)∧((ca≠0∧A = .nils)∨(ca=0∧∃ S:List (List Int),A = .list (rows S)∧S.length≤300∧(∀ r∈S,r.length≤30)∧(onesC T N).length+1≤S.length∧∀ x∈onesC T N,x∈S)):=by
   unfold allV
   by_cases h12:N≤12
   ·rw [if_pos h12]
    cases hg:allG (jgC T N) (trvC N) (onesC T N) with
    | none=>exact ⟨.nils,3,inferInstance,rfl,p33nn,.inl ⟨by decide,rfl⟩⟩
    | some S =>
     have hAll:=allG_ok hg
     obtain ⟨a1,a2⟩:=all_ones hT hAll
     have hSr:∀ r∈S,r.length≤30:=fun r hr=>by
      cases (hAll.mem r).1 hr with
      | base=>have:=hz.len; omega
      | step a p ha hp=>have:=(hjc a p).1.len; omega
     exact ⟨_,0,inferInstance,rfl,p33 S (by have:=hAll.few; omega) (fun r hr=>by have:=hSr r hr; omega),.inr ⟨rfl,S,rfl,hAll.few,hSr,a2,a1⟩⟩
   ·rw [if_neg h12]
    exact ⟨.nils,3,inferInstance,rfl,p33nn,.inl ⟨by decide,rfl⟩⟩
  rw [hA] at hia hoa
  unfold oneV at hip
  unfold leastV at hil
  by_cases e:N=1
  ·rw [if_pos e] at hip hil
   have hnil:onesC T N = []:=by subst e; rfl
   rw [hnil] at hop hol2 hAA
   refine ⟨A,.nils,_,.nils,_,ca,0,⟨hsa,⟨inferInstance,inferInstance⟩,⟨inferInstance,inferInstance⟩,hia,hoa,hip,hop,hil,hol2,hA9,p33m,p33m⟩,.inr ⟨rfl,.inl ⟨rfl,rfl,?_⟩⟩⟩
   rcases hAA with h | ⟨h1,S,h2,h3,_,h5,_⟩
   ·exact .inl h
   ·exact .inr ⟨h1,S,h2,h3,by simpa using h5⟩
  ·rw [if_neg e] at hip hil
   have hne:=lstC_has (fun x hx=>(hocn x hx).1) (onesC_ne (T:=T) (show 2≤N by omega))
   refine ⟨A,_,_,_,_,ca,0,⟨hsa,⟨inferInstance,inferInstance⟩,⟨inferInstance,inferInstance⟩,hia,hoa,hip,hop,hil,hol2,hA9,p33 _ (by omega) (fun r hr=>by have:=hLr r hr; omega),p33 _ (by omega) hMr⟩,.inr ⟨rfl,.inr ⟨_,_,rfl,rfl,hol,hLr,hMl,List.length_pos_iff.2 hne,hAA⟩⟩⟩
end
end
section
section
set_option maxRecDepth 100000
def k4_b0:KC:=(.seq (.seq (.ops [mV 154 24,mV 155 10,oP 156 (.len false (.t 155)),oP 157 (.bin .lss (.t 154) (.t 156))])
 (.cond (.t 157) .skip (.exit 2)))
 (.seq (.block 3 (.draw [mV 160 23,mV 161 160,⟨(some 162),some (161,false),.mv (.t 10)⟩,⟨(some 163),some (161,false),.mv (.t 24)⟩,⟨(some 164),some (161,false),.idxS 1 (.t 162) (.t 163)⟩,⟨(some 165),some (161,false),.load false 1 (.t 164)⟩,⟨(some 166),some (161,false),.mv (.t 14)⟩,⟨(some 167),some (161,false),.mv (.t 22)⟩,⟨(some 168),some (161,false),.idxS 1 (.t 166) (.t 167)⟩,⟨(some 169),some (161,false),.load false 1 (.t 168)⟩,⟨(some 170),some (161,false),.pcall (fC 11) [(.t 165),(.t 169)]⟩,oP 171 (.pick (.t 161) (.c (.bool true)) (.t 170)),mV 23 171]))
 (.ops [mV 158 24,oP 159 (.bin .add (.t 158) (iC 1)),mV 24 159])))
def k4_b1:KC:=(.seq (.seq (.ops [mV 148 22,mV 149 14,oP 150 (.len false (.t 149)),oP 151 (.bin .lss (.t 148) (.t 150))])
 (.cond (.t 151) .skip (.exit 0)))
 (.seq (.block 1 (.seq (.ops [oP 23 (.mv (.c (.bool false)))])
 (.seq (.seq (.ops [oP 24 (.mv (iC 0))])
 (.block 2 (.loop k4_b0)))
 (.seq (.ops [mV 172 23,oP 173 (.not (.t 172))])
 (.cond (.t 173) (.seq (.ops [oP 2 (.mv (.c (.bool false)))])
 .ret) .skip)))))
 (.ops [mV 152 22,oP 153 (.bin .add (.t 152) (iC 1)),mV 22 153])))
def k4:KC:=(.seq (.ops [oP 2 (.mv (.c (.bool false)))])
 (.seq (.seq (.ops [mV 27 0,oP 28 (.call (fC 5) [(.t 27)])])
 (.cond (.t 28) (.seq (.ops [oP 2 (.mv (.c (.bool true)))])
 .ret) .skip))
 (.seq (.ops [mV 30 0,oP 31 (.call (fC 30) [(.t 30)]),mV 29 31,oP 32 (.extr 0 (.t 29)),oP 33 (.extr 1 (.t 29)),mV 3 32,mV 4 33])
 (.seq (.ops [mV 35 3,mV 36 4,oP 37 (.call (fC 31) [(.t 35),(.t 36)]),mV 34 37,oP 38 (.extr 0 (.t 34)),oP 39 (.extr 1 (.t 34)),mV 5 38,mV 6 39])
 (.seq (.seq (.ops [mV 41 3,mV 42 4,oP 43 (.call (fC 32) [(.t 41),(.t 42)]),mV 40 43,oP 44 (.extr 0 (.t 40)),oP 45 (.extr 1 (.t 40)),mV 7 44,mV 8 45])
 (.seq (.ops [mV 46 6,mV 47 8,oP 48 (.bin .neq (.t 46) (.t 47)),mV 49 48,⟨(some 50),some (49,false),.mv (.t 5)⟩,⟨(some 51),some (49,false),.mv (.t 7)⟩,⟨(some 52),some (49,false),.call (fC 33) [(.t 50),(.t 51)]⟩,⟨(some 53),some (49,false),.not (.t 52)⟩,oP 54 (.pick (.t 49) (.c (.bool true)) (.t 53))])
 (.cond (.t 54) (.seq (.ops [oP 2 (.mv (.c (.bool false)))])
 .ret) .skip)))
 (.seq (.ops [mV 55 0,oP 56 (.call (fC 34) [(.t 55)]),mV 9 56])
 (.seq (.ops [mV 58 9,oP 59 (.call (fC 35) [(.t 58)]),mV 57 59,oP 60 (.extr 0 (.t 57)),oP 61 (.extr 1 (.t 57)),mV 10 60,mV 11 61])
 (.seq (.seq (.ops [mV 63 9,oP 64 (.call (fC 36) [(.t 63)]),mV 62 64,oP 65 (.extr 0 (.t 62)),oP 66 (.extr 1 (.t 62)),mV 12 65,mV 13 66])
 (.seq (.ops [mV 67 11,mV 68 13,oP 69 (.bin .neq (.t 67) (.t 68)),mV 70 69,⟨(some 71),some (70,false),.mv (.t 10)⟩,⟨(some 72),some (70,false),.mv (.t 12)⟩,⟨(some 73),some (70,false),.call (fC 33) [(.t 71),(.t 72)]⟩,⟨(some 74),some (70,false),.not (.t 73)⟩,oP 75 (.pick (.t 70) (.c (.bool true)) (.t 74))])
 (.cond (.t 75) (.seq (.ops [oP 2 (.mv (.c (.bool false)))])
 .ret) .skip)))
 (.seq (.ops [mV 77 9,oP 78 (.call (fC 37) [(.t 77)]),mV 76 78,oP 79 (.extr 0 (.t 76)),oP 80 (.extr 1 (.t 76)),mV 14 79,mV 15 80])
 (.seq (.seq (.ops [mV 82 9,oP 83 (.call (fC 38) [(.t 82)]),mV 81 83,oP 84 (.extr 0 (.t 81)),oP 85 (.extr 1 (.t 81)),mV 16 84,mV 17 85])
 (.seq (.ops [mV 86 15,mV 87 17,oP 88 (.bin .neq (.t 86) (.t 87)),mV 89 88,⟨(some 90),some (89,false),.mv (.t 14)⟩,⟨(some 91),some (89,false),.mv (.t 16)⟩,⟨(some 92),some (89,false),.call (fC 33) [(.t 90),(.t 91)]⟩,⟨(some 93),some (89,false),.not (.t 92)⟩,oP 94 (.pick (.t 89) (.c (.bool true)) (.t 93))])
 (.cond (.t 94) (.seq (.ops [oP 2 (.mv (.c (.bool false)))])
 .ret) .skip)))
 (.seq (.ops [mV 96 9,oP 97 (.call (fC 39) [(.t 96)]),mV 95 97,oP 98 (.extr 0 (.t 95)),oP 99 (.extr 1 (.t 95)),mV 18 98,mV 19 99])
 (.seq (.seq (.ops [mV 101 9,oP 102 (.call (fC 40) [(.t 101)]),mV 100 102,oP 103 (.extr 0 (.t 100)),oP 104 (.extr 1 (.t 100)),mV 20 103,mV 21 104])
 (.seq (.ops [mV 105 19,mV 106 21,oP 107 (.bin .neq (.t 105) (.t 106)),mV 108 107,⟨(some 109),some (108,false),.mv (.t 18)⟩,⟨(some 110),some (108,false),.mv (.t 20)⟩,⟨(some 111),some (108,false),.call (fC 33) [(.t 109),(.t 110)]⟩,⟨(some 112),some (108,false),.not (.t 111)⟩,oP 113 (.pick (.t 108) (.c (.bool true)) (.t 112))])
 (.cond (.t 113) (.seq (.ops [oP 2 (.mv (.c (.bool false)))])
 .ret) .skip)))
 (.seq (.seq (.ops [mV 114 15,oP 115 (.bin .eql (.t 114) (iC 0)),mV 116 115,⟨(some 117),some (116,true),.mv (.t 19)⟩,⟨(some 118),some (116,true),.bin .neq (.t 117) (iC 0)⟩,⟨(some 119),some (116,true),.mv (.t 118)⟩,⟨(some 120),some (119,false),.mv (.t 18)⟩,⟨(some 121),some (119,false),.len false (.t 120)⟩,⟨(some 122),some (119,false),.mv (.t 14)⟩,⟨(some 123),some (119,false),.len false (.t 122)⟩,⟨(some 124),some (119,false),.bin .gtr (.t 121) (.t 123)⟩,⟨(some 125),some (116,true),.pick (.t 119) (.c (.bool true)) (.t 124)⟩,⟨(some 126),some (116,true),.mv (.t 125)⟩,⟨(some 127),some (126,false),.mv (.t 18)⟩,⟨(some 128),some (126,false),.len false (.t 127)⟩,⟨(some 129),some (126,false),.bin .eql (.t 128) (iC 0)⟩,⟨(some 130),some (126,false),.mv (.t 14)⟩,⟨(some 131),some (126,false),.len false (.t 130)⟩,⟨(some 132),some (126,false),.bin .eql (.t 131) (iC 0)⟩,⟨(some 133),some (126,false),.beq true (.t 129) (.t 132)⟩,⟨(some 134),some (116,true),.pick (.t 126) (.c (.bool true)) (.t 133)⟩,oP 135 (.pick (.t 116) (.t 134) (.c (.bool false)))])
 (.cond (.t 135) (.seq (.ops [oP 2 (.mv (.c (.bool false)))])
 .ret) .skip))
 (.seq (.seq (.ops [mV 136 11,oP 137 (.bin .eql (.t 136) (iC 0))])
 (.cond (.t 137) (.seq (.seq (.ops [mV 138 15,oP 139 (.bin .neq (.t 138) (iC 0)),mV 140 139,⟨(some 141),some (140,false),.mv (.t 10)⟩,⟨(some 142),some (140,false),.len false (.t 141)⟩,⟨(some 143),some (140,false),.mv (.t 14)⟩,⟨(some 144),some (140,false),.len false (.t 143)⟩,⟨(some 145),some (140,false),.bin .add (.t 144) (iC 1)⟩,⟨(some 146),some (140,false),.bin .lss (.t 142) (.t 145)⟩,oP 147 (.pick (.t 140) (.c (.bool true)) (.t 146))])
 (.cond (.t 147) (.seq (.ops [oP 2 (.mv (.c (.bool false)))])
 .ret) .skip))
 (.seq (.ops [oP 22 (.mv (iC 0))])
 (.block 0 (.loop k4_b1)))) .skip))
 (.seq (.seq (.ops [mV 174 6,oP 175 (.bin .neq (.t 174) (iC 0))])
 (.cond (.t 175) (.seq (.ops [mV 176 5,oP 177 (.len false (.t 176)),oP 178 (.bin .eql (.t 177) (iC 0)),mV 2 178])
 .ret) .skip))
 (.seq (.ops [mV 180 5,oP 181 (.call (fC 41) [(.t 180)]),mV 179 181,oP 182 (.extr 0 (.t 179)),oP 183 (.extr 1 (.t 179)),mV 25 182,mV 26 183])
 (.seq (.ops [mV 184 26,oP 185 (.bin .eql (.t 184) (iC 0)),mV 186 185,⟨(some 187),some (186,true),.mv (.t 25)⟩,oP 188 (.pick (.t 186) (.t 187) (.c (.bool false))),mV 2 188])
 .ret)))))))))))))))))
theorem e4:Ent 4 189 [] [.t 2] k4:=ent Tryz.func4
end
section
attribute [local irreducible] ACall PCall KL
attribute [local go_sem] OpK_eq HKv bne_self_eq_false decide_true Bool.not_true beq_self_eq_true Bool.not_false
set_option maxRecDepth 100000 in
set_option maxHeartbeats 8000000 in
theorem p4 (l:List Int) (hl:l.length≤9223372036854775807) (hb:∀ z∈l,0≤z∧z≤255):Pure Tryz.prog 4 [.list (u8s l)] (.bool true):=by
 refine e4 (by simp) fun _ _=>?_
 simp only [k4,argEnv,go_sem]
 refine (p5 l hl).go ?_
 try simp only [go_sem]
 refine ⟨fun h=>Kv.Fin.still ⟨rfl,rfl⟩,fun hbig=>?_⟩
 have hB:Byt l:=⟨by omega,hb⟩
 refine p30 hB fun t cl q1 q2 q3=>?_
 obtain ⟨V,c,hV,i1,s1,m1,hq⟩:=qu_loc t q1 q2 cl q3
 try simp only [go_sem]
 refine i1.go ?_
 try simp only [go_sem]
 refine s1.go ?_
 try simp only [go_sem]
 refine m1.go ?_
 try simp only [go_sem]
 refine p34 hB fun t2 q4 q5=>?_
 obtain ⟨A,PI,PS,LI,LS,ca,cp,hv,hL⟩:=co_loc t2 q4 q5
 have z1:=hv.sa
 obtain ⟨z2,z3⟩:=hv.sp
 obtain ⟨z4,z5⟩:=hv.sl
 try simp only [go_sem]
 refine hv.ia.go ?_
 try simp only [go_sem]
 refine hv.oa.go ?_
 try simp only [go_sem]
 refine hv.ra.go ?_
 try simp only [go_sem]
 refine hv.ip.go ?_
 try simp only [go_sem]
 refine hv.op.go ?_
 try simp only [go_sem]
 refine hv.rp.go ?_
 try simp only [go_sem]
 refine hv.il.go ?_
 try simp only [go_sem]
 refine hv.ol.go ?_
 try simp only [go_sem]
 refine hv.rl.go ?_
 clear hv i1 s1 m1
 unfold CoL at hL
 rcases hL with ⟨n1,n2,rfl,rfl,rfl⟩ | ⟨rfl,⟨rfl,rfl,hA⟩ | ⟨L,M,rfl,rfl,b1,b2,b3,b4,hA⟩⟩
 ·have d1:decide (cp=0)=false:=decide_eq_false n1
  have d2:decide (ca=0)=false:=decide_eq_false n2
  try simp only [d1,d2,go_sem]
  rcases hq with ⟨hc,rfl⟩ | ⟨rfl,G,rfl,hG⟩
  ·refine ⟨fun _=>?_,fun h=>absurd h hc⟩
   try simp only [go_sem]
   exact Kv.Fin.still ⟨rfl,rfl⟩
  ·refine ⟨fun h=>absurd rfl h,fun _=>hG.go ?_⟩
   try simp only [go_sem]
   exact Kv.Fin.still ⟨rfl,rfl⟩
 ·rcases hA with ⟨n2,rfl⟩ | ⟨rfl,S,rfl,c1,c2⟩
  ·have d2:decide (ca=0)=false:=decide_eq_false n2
   try simp only [d2,go_sem]
   rcases hq with ⟨hc,rfl⟩ | ⟨rfl,G,rfl,hG⟩
   ·refine ⟨fun _=>?_,fun h=>absurd h hc⟩
    try simp only [go_sem]
    exact Kv.Fin.still ⟨rfl,rfl⟩
   ·refine ⟨fun h=>absurd rfl h,fun _=>hG.go ?_⟩
    try simp only [go_sem]
    exact Kv.Fin.still ⟨rfl,rfl⟩
  ·try simp only [rows_lenC,go_sem]
   refine ⟨by omega,fun h=>absurd h (by omega),fun _=>?_⟩
   refine KL_ind k4_b1.eq_1 (fun _:Unit=>[(5,V),(6,.int .i64 c),(10,.list (rows S)),(14,.nils),(22,.int .i64 0)]) (fun _=>[]) (fun _=>True) (fun _=>0) [5,6,10,14,22] () (by simp [keep]) rfl trivial fun _ _ ih=>?_
   rcases hq with ⟨hc,rfl⟩ | ⟨rfl,G,rfl,hG⟩
   ·have hd:decide (c=0)=false:=decide_eq_false hc
    try simp only [hd,rows_lenC,go_sem]
    exact Kv.Fin.still ⟨rfl,rfl⟩
   ·try simp only [rows_lenC,go_sem]
    refine hG.go ?_
    try simp only [go_sem]
    exact Kv.Fin.still ⟨rfl,rfl⟩
 ·have hlm:¬ (L.length:Int)<(M.length:Int):=by omega
  have hbb:(decide ((M.length:Int)=0) != decide ((L.length:Int)=0))=false:=by
   rw [decide_eq_false (by omega:¬ (M.length:Int)=0),decide_eq_false (by omega:¬ (L.length:Int)=0)]; rfl
  rcases hA with ⟨n2,rfl⟩ | ⟨rfl,S,rfl,c1,c2,c3,c4⟩
  ·have d2:decide (ca=0)=false:=decide_eq_false n2
   try simp only [d2,rows_lenC,go_sem]
   refine ⟨fun _=>⟨fun h=>(by rw [hbb] at h; cases h),fun _=>?_⟩,fun h=>absurd h hlm⟩
   rcases hq with ⟨hc,rfl⟩ | ⟨rfl,G,rfl,hG⟩
   ·refine ⟨fun _=>?_,fun h=>absurd h hc⟩
    try simp only [go_sem]
    exact Kv.Fin.still ⟨rfl,rfl⟩
   ·refine ⟨fun h=>absurd rfl h,fun _=>hG.go ?_⟩
    try simp only [go_sem]
    exact Kv.Fin.still ⟨rfl,rfl⟩
  ·try simp only [rows_lenC,go_sem]
   refine ⟨fun _=>⟨fun h=>(by rw [hbb] at h; cases h),fun _=>⟨by omega,fun h=>absurd h (by omega),fun _=>?_⟩⟩,fun h=>absurd h hlm⟩
   refine KL_ind k4_b1.eq_1 (fun i:Nat=>[(5,V),(6,.int .i64 c),(10,.list (rows S)),(14,.list (rows L)),(22,.int .i64 i)]) (fun _=>[]) (fun i=>i≤L.length) (fun i=>L.length - i) [5,6,10,14,22] 0 (by simp [keep]) rfl (Nat.zero_le _) fun i hi ih=>?_
   try simp only [rows_lenC,go_sem]
   refine ⟨fun g1=>?_,fun g1=>?_⟩
   ·have hil:i<L.length:=by omega
    have hgi:L.getD i []∈L:=getD_mem hil []
    have hin:=c4 _ hgi
    have hgl:=b2 _ hgi
    refine KL_ind k4_b0.eq_1 (fun j:Nat=>[(5,V),(6,.int .i64 c),(10,.list (rows S)),(14,.list (rows L)),(22,.int .i64 i),(23,.bool ((S.take j).any fun x=>decide (x=L.getD i []))),(24,.int .i64 j)]) (fun _=>[]) (fun j=>j≤S.length) (fun j=>S.length - j) [5,6,10,14,22,23,24] 0 (by simp [keep]) rfl (Nat.zero_le _) fun j hj ihj=>?_
    try simp only [rows_lenC,go_sem]
    refine ⟨fun g2=>?_,fun g2=>?_⟩
    ·have hjl:j<S.length:=by omega
     have hgj:S.getD j []=S[j]:=by simp [List.getD_eq_getElem?_getD,hjl]
     have hst:=any_takeC (p:=fun x=>decide (x=L.getD i [])) hjl
     have hLk:=p11G S[j] (L.getD i []) (by have:=c2 _ (List.getElem_mem hjl); omega) (by omega)
     cases hf:(S.take j).any fun x=>decide (x=L.getD i []) with
     | true =>
      rw [hf,Bool.true_or] at hst
      try simp only [go_sem]
      exact ⟨by omega,ihj (j+1) (by omega) (by omega) _ _ (by simp only [hst]; simp [keep]) rfl⟩
     | false =>
      rw [hf,Bool.false_or] at hst
      try simp only [hgj,go_sem]
      refine ⟨by omega,fun _=>⟨by omega,fun _=>hLk.pgo ?_⟩⟩
      try simp only [go_sem]
      exact ⟨by omega,ihj (j+1) (by omega) (by omega) _ _ (by simp only [hst]; simp [keep]) rfl⟩
    ·have hjl:j=S.length:=by omega
     subst hjl
     rw [List.take_length,show (S.any fun x=>decide (x=L.getD i []))=true from List.any_eq_true.2 ⟨_,hin,decide_eq_true rfl⟩]
     try simp only [go_sem]
     exact ⟨by omega,ih (i+1) (by omega) (by omega) _ _ (by simp [keep]) rfl⟩
   ·have hil:i=L.length:=by omega
    rcases hq with ⟨hc,rfl⟩ | ⟨rfl,G,rfl,hG⟩
    ·refine ⟨fun _=>?_,fun h=>absurd h hc⟩
     try simp only [go_sem]
     exact Kv.Fin.still ⟨rfl,rfl⟩
    ·refine ⟨fun h=>absurd rfl h,fun _=>hG.go ?_⟩
     try simp only [go_sem]
     exact Kv.Fin.still ⟨rfl,rfl⟩
end
end
end Go.Proofs.YtcfmmmloeaggmaaGreat
