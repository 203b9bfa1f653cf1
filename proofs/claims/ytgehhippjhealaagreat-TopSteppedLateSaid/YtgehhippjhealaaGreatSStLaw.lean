/- The code of functions that are walked, compiled for the evaluator, as text. Steps of neighbours bring a sequence of orders to that by Due, and no step makes the delay greater. Equality of lists, a copy, the right order, and a list given by swaps. Facts for the law of late steps. The walk of the law of late steps. No condition but those that stand in each. -/
import Derived.Test.YtgehhippjhealaaGreatSTopW
import Derived.Test.YtgehhippjhealaaGreatSL5Days3
import Derived.Test.YtgehhippjhealaaGreatSStWrong
import Derived.Test.YtgehhippjhealaaGreatSEvKer3
import Derived.Test.YtgehhippjhealaaGreatSL5Prog2
set_option linter.unusedSimpArgs false
set_option linter.unusedVariables false
set_option maxRecDepth 100000
namespace Go.Ev.YtgehhippjhealaaGreatC
open Go.Proofs
def c4 : IFunc := ⟨232, [.tmp 6], .seq (.ops [dO 6 (.mv (cB false))]) (.seq (.ops [dO 30 (.mv (tM 0)), dO 31 (.len (tM 30)), dO 7 (.mv (tM 31))]) (.seq (.seq (.ops [dO 32 (.mv (tM 7)), dO 33 (.bin .lss (tM 32) (cI 1)), dO 34 (.mv (tM 33)), gO 35 (.mv (tM 7)) 34 false, gO 36 (.bin .gtr (tM 35) (cI 10)) 34 false, dO 37 (.pick (tM 34) (cB true) (tM 36)), dO 38 (.mv (tM 37)), gO 39 (.mv (tM 0)) 38 false, gO 40 (.callF false 17 [tM 39]) 38 false, gO 41 (.bin .neq (tM 40) (cI 0)) 38 false, dO 42 (.pick (tM 38) (cB true) (tM 41)), dO 43 (.mv (tM 42)), gO 44 (.mv (tM 1)) 43 false, gO 45 (.len (tM 44)) 43 false, gO 46 (.bin .gtr (tM 45) (cI 30)) 43 false, dO 47 (.pick (tM 43) (cB true) (tM 46))]) (.cond (tM 47) (.seq (.ops [dO 48 (.callF false 8 []), dO 6 (.mv (tM 48))]) .ret) .skip)) (.seq (.ops [dO 8 (.mv (cI 0))]) (.seq (.ops [dO 9 (.mv (.const (.slice none [] true)))]) (.seq (.seq (.ops [dO 10 (.mv (cI 0))]) (.block 0 (.loop (.seq (.seq (.ops [dO 49 (.mv (tM 10)), dO 50 (.mv (tM 7)), dO 51 (.bin .lss (tM 49) (tM 50))]) (.cond (tM 51) .skip (.exit 0))) (.seq (.block 1 (.seq (.ops [dO 54 (.mv (tM 0)), dO 55 (.mv (tM 10)), dO 56 (.indexAddr 3 (tM 54) (tM 55)), dO 57 (.fieldAddr 0 (tM 56)), dO 58 (.fieldAddr 0 (tM 57)), dO 59 (.load none (tM 58)), dO 11 (.mv (tM 59))]) (.seq (.seq (.ops [dO 60 (.mv (tM 2))]) (.cond (tM 60) (.seq (.ops [dO 8 (.mv (cI 1))]) (.ops [dO 61 (.mv (tM 0)), dO 62 (.mv (tM 10)), dO 63 (.indexAddr 3 (tM 61) (tM 62)), dO 64 (.fieldAddr 0 (tM 63)), dO 65 (.fieldAddr 1 (tM 64)), dO 66 (.load none (tM 65)), dO 11 (.mv (tM 66))])) .skip)) (.ops [dO 67 (.mv (tM 9)), dO 68 (.mv (tM 11)), dO 69 (.buildSlice none [.int .i64 0] [(0, (1, tM 68))]), dO 70 (.append none 8 (tM 67) (tM 69)), dO 9 (.mv (tM 70))])))) (.ops [dO 52 (.mv (tM 10)), dO 53 (.bin .add (tM 52) (cI 1)), dO 10 (.mv (tM 53))])))))) (.seq (.ops [dO 72 (.mv (tM 0)), dO 73 (.callF false 18 [tM 72]), dO 71 (.mv (tM 73)), dO 74 (.extract (tM 71) 0), dO 75 (.extract (tM 71) 1), dO 12 (.mv (tM 74)), dO 13 (.mv (tM 75))]) (.seq (.seq (.ops [dO 76 (.mv (tM 13)), dO 77 (.bin .neq (tM 76) (cI 0)), dO 78 (.mv (tM 77)), gO 79 (.mv (tM 12)) 78 false, gO 80 (.len (tM 79)) 78 false, gO 81 (.mv (tM 7)) 78 false, gO 82 (.bin .neq (tM 80) (tM 81)) 78 false, dO 83 (.pick (tM 78) (cB true) (tM 82)), dO 84 (.mv (tM 83)), gO 85 (.mv (tM 12)) 84 false, gO 86 (.callF false 7 [tM 85]) 84 false, gO 87 (.bin .neq (tM 86) (cI 0)) 84 false, dO 88 (.pick (tM 84) (cB true) (tM 87))]) (.cond (tM 88) (.seq (.ops [dO 6 (.mv (cB false))]) .ret) .skip)) (.seq (.ops [dO 89 (.mv (tM 7)), dO 90 (.mkSlice none [.int .i64 0] 8 (tM 89) (tM 89)), dO 14 (.mv (tM 90))]) (.seq (.seq (.ops [dO 15 (.mv (cI 0))]) (.block 2 (.loop (.seq (.seq (.ops [dO 91 (.mv (tM 15)), dO 92 (.mv (tM 7)), dO 93 (.bin .lss (tM 91) (tM 92))]) (.cond (tM 93) .skip (.exit 2))) (.seq (.block 3 (.ops [dO 96 (.mv (tM 14)), dO 97 (.mv (tM 12)), dO 98 (.mv (tM 15)), dO 99 (.indexAddr 1 (tM 97) (tM 98)), dO 100 (.load none (tM 99)), dO 101 (.mv (tM 15)), dO 102 (.indexAddr 1 (tM 96) (tM 100)), eO (.store 1 (tM 102) (tM 101))])) (.ops [dO 94 (.mv (tM 15)), dO 95 (.bin .add (tM 94) (cI 1)), dO 15 (.mv (tM 95))])))))) (.seq (.ops [dO 103 (.mv (tM 7)), dO 104 (.mv (tM 1)), dO 105 (.callF false 19 [tM 103, tM 104]), dO 16 (.mv (tM 105))]) (.seq (.ops [dO 17 (.mv (.const (.slice none [] true)))]) (.seq (.seq (.ops [dO 18 (.mv (cI 0))]) (.block 4 (.loop (.seq (.seq (.ops [dO 106 (.mv (tM 18)), dO 107 (.mv (tM 7)), dO 108 (.bin .lss (tM 106) (tM 107))]) (.cond (tM 108) .skip (.exit 4))) (.seq (.block 5 (.ops [dO 111 (.mv (tM 17)), dO 112 (.mv (tM 14)), dO 113 (.mv (tM 16)), dO 114 (.mv (tM 18)), dO 115 (.indexAddr 1 (tM 113) (tM 114)), dO 116 (.load none (tM 115)), dO 117 (.indexAddr 1 (tM 112) (tM 116)), dO 118 (.load none (tM 117)), dO 119 (.buildSlice none [.int .i64 0] [(0, (1, tM 118))]), dO 120 (.append none 8 (tM 111) (tM 119)), dO 17 (.mv (tM 120))])) (.ops [dO 109 (.mv (tM 18)), dO 110 (.bin .add (tM 109) (cI 1)), dO 18 (.mv (tM 110))])))))) (.seq (.ops [dO 122 (.mv (tM 17)), dO 123 (.callF false 20 [tM 122]), dO 121 (.mv (tM 123)), dO 124 (.extract (tM 121) 0), dO 125 (.extract (tM 121) 1), dO 19 (.mv (tM 124)), dO 20 (.mv (tM 125))]) (.seq (.ops [dO 127 (.mv (tM 17)), dO 128 (.callF false 21 [tM 127]), dO 126 (.mv (tM 128)), dO 129 (.extract (tM 126) 0), dO 130 (.extract (tM 126) 1), dO 21 (.mv (tM 129)), dO 22 (.mv (tM 130))]) (.seq (.ops [dO 132 (.mv (tM 0)), dO 133 (.mv (tM 16)), dO 134 (.mv (tM 9)), dO 135 (.callF false 22 [tM 132, tM 133, tM 134]), dO 131 (.mv (tM 135)), dO 136 (.extract (tM 131) 0), dO 137 (.extract (tM 131) 1), dO 23 (.mv (tM 136)), dO 24 (.mv (tM 137))]) (.seq (.seq (.ops [dO 138 (.mv (tM 20)), dO 139 (.bin .neq (tM 138) (cI 0)), dO 140 (.mv (tM 139)), gO 141 (.mv (tM 22)) 140 false, gO 142 (.bin .neq (tM 141) (cI 0)) 140 false, dO 143 (.pick (tM 140) (cB true) (tM 142)), dO 144 (.mv (tM 143)), gO 145 (.mv (tM 19)) 144 false, gO 146 (.len (tM 145)) 144 false, gO 147 (.mv (tM 21)) 144 false, gO 148 (.len (tM 147)) 144 false, gO 149 (.bin .neq (tM 146) (tM 148)) 144 false, dO 150 (.pick (tM 144) (cB true) (tM 149)), dO 151 (.mv (tM 150)), gO 152 (.mv (tM 19)) 151 false, gO 153 (.len (tM 152)) 151 false, gO 154 (.bin .gtr (tM 153) (cI 45)) 151 false, dO 155 (.pick (tM 151) (cB true) (tM 154)), dO 156 (.mv (tM 155)), gO 157 (.mv (tM 24)) 156 false, gO 158 (.bin .neq (tM 157) (cI 0)) 156 false, dO 159 (.pick (tM 156) (cB true) (tM 158))]) (.cond (tM 159) (.seq (.ops [dO 6 (.mv (cB false))]) .ret) .skip)) (.seq (.seq (.ops [dO 25 (.mv (cI 0))]) (.block 6 (.loop (.seq (.seq (.ops [dO 160 (.mv (tM 25)), dO 161 (.mv (tM 19)), dO 162 (.len (tM 161)), dO 163 (.bin .lss (tM 160) (tM 162))]) (.cond (tM 163) .skip (.exit 6))) (.seq (.block 7 (.seq (.ops [dO 166 (.mv (tM 19)), dO 167 (.mv (tM 25)), dO 168 (.indexAddr 1 (tM 166) (tM 167)), dO 169 (.load none (tM 168)), dO 26 (.mv (tM 169))]) (.seq (.seq (.ops [dO 170 (.mv (tM 26)), dO 171 (.bin .lss (tM 170) (cI 0)), dO 172 (.mv (tM 171)), gO 173 (.mv (tM 26)) 172 false, gO 174 (.bin .add (tM 173) (cI 1)) 172 false, gO 175 (.mv (tM 7)) 172 false, gO 176 (.bin .geq (tM 174) (tM 175)) 172 false, dO 177 (.pick (tM 172) (cB true) (tM 176))]) (.cond (tM 177) (.seq (.ops [dO 6 (.mv (cB false))]) .ret) .skip)) (.seq (.ops [dO 178 (.mv (tM 16)), dO 179 (.callF true 15 [tM 178]), dO 16 (.mv (tM 179))]) (.seq (.ops [dO 180 (.mv (tM 16)), dO 181 (.mv (tM 26)), dO 182 (.mv (tM 16)), dO 183 (.mv (tM 26)), dO 184 (.bin .add (tM 183) (cI 1)), dO 185 (.mv (tM 16)), dO 186 (.mv (tM 26)), dO 187 (.bin .add (tM 186) (cI 1)), dO 188 (.indexAddr 1 (tM 185) (tM 187)), dO 189 (.load none (tM 188)), dO 190 (.mv (tM 16)), dO 191 (.mv (tM 26)), dO 192 (.indexAddr 1 (tM 190) (tM 191)), dO 193 (.load none (tM 192)), dO 194 (.indexAddr 1 (tM 180) (tM 181)), eO (.store 1 (tM 194) (tM 189)), dO 195 (.indexAddr 1 (tM 182) (tM 184)), eO (.store 1 (tM 195) (tM 193))]) (.seq (.ops [dO 197 (.mv (tM 0)), dO 198 (.mv (tM 16)), dO 199 (.mv (tM 9)), dO 200 (.callF false 22 [tM 197, tM 198, tM 199]), dO 196 (.mv (tM 200)), dO 201 (.extract (tM 196) 0), dO 202 (.extract (tM 196) 1), dO 27 (.mv (tM 201)), dO 28 (.mv (tM 202))]) (.seq (.seq (.ops [dO 203 (.mv (tM 28)), dO 204 (.bin .neq (tM 203) (cI 0)), dO 205 (.mv (tM 204)), gO 206 (.mv (tM 27)) 205 false, gO 207 (.mv (tM 23)) 205 false, gO 208 (.bin .gtr (tM 206) (tM 207)) 205 false, dO 209 (.pick (tM 205) (cB true) (tM 208))]) (.cond (tM 209) (.seq (.ops [dO 6 (.mv (cB false))]) .ret) .skip)) (.ops [dO 210 (.mv (tM 27)), dO 23 (.mv (tM 210))])))))))) (.ops [dO 164 (.mv (tM 25)), dO 165 (.bin .add (tM 164) (cI 1)), dO 25 (.mv (tM 165))])))))) (.seq (.ops [dO 212 (.mv (tM 0)), dO 213 (.mv (tM 8)), dO 214 (.callF false 23 [tM 212, tM 213]), dO 211 (.mv (tM 214)), dO 215 (.extract (tM 211) 0), dO 216 (.extract (tM 211) 1), dO 29 (.mv (tM 215)), dO 13 (.mv (tM 216))]) (.seq (.ops [dO 217 (.mv (tM 13)), dO 218 (.bin .eql (tM 217) (cI 0)), dO 219 (.mv (tM 218)), gO 220 (.mv (tM 16)) 219 true, gO 221 (.mv (tM 12)) 219 true, gO 222 (.callF false 14 [tM 220, tM 221]) 219 true, dO 223 (.pick (tM 219) (tM 222) (cB false)), dO 224 (.mv (tM 223)), gO 225 (.mv (tM 23)) 224 true, gO 226 (.mv (tM 29)) 224 true, gO 227 (.bin .eql (tM 225) (tM 226)) 224 true, dO 228 (.pick (tM 224) (tM 227) (cB false)), dO 229 (.mv (tM 228)), gO 230 (.callF false 8 []) 229 true, dO 231 (.pick (tM 229) (tM 230) (cB false)), dO 6 (.mv (tM 231))]) .ret)))))))))))))))))))⟩
theorem k4 : (cfgOf Tryz.prog byr).fns 4 = some c4 := by kernel_rfl
theorem t4 : T.fns 4 = some c4 := T_fns k4 (by decide) (by decide)
def c19 : IFunc := ⟨46, [.tmp 4], .seq (.ops [dO 4 (.mv (.const (.slice none [] true)))]) (.seq (.ops [dO 8 (.mv (tM 0)), dO 9 (.callF true 54 [tM 8]), dO 5 (.mv (tM 9))]) (.seq (.seq (.ops [dO 6 (.mv (cI 0))]) (.block 0 (.loop (.seq (.seq (.ops [dO 10 (.mv (tM 6)), dO 11 (.mv (tM 0)), dO 12 (.bin .lss (tM 10) (tM 11)), dO 13 (.mv (tM 12)), gO 14 (.mv (tM 1)) 13 true, gO 15 (.len (tM 14)) 13 true, gO 16 (.bin .gtr (tM 15) (cI 0)) 13 true, dO 17 (.pick (tM 13) (tM 16) (cB false))]) (.cond (tM 17) .skip (.exit 0))) (.seq (.block 1 (.seq (.ops [dO 20 (.mv (tM 1)), dO 21 (.mv (tM 6)), dO 22 (.mv (tM 1)), dO 23 (.len (tM 22)), dO 24 (.bin .rem (tM 21) (tM 23)), dO 25 (.indexAddr 1 (tM 20) (tM 24)), dO 26 (.load none (tM 25)), dO 27 (.conv .i64 (tM 26)), dO 28 (.mv (tM 6)), dO 29 (.bin .add (tM 28) (cI 1)), dO 30 (.bin .rem (tM 27) (tM 29)), dO 7 (.mv (tM 30))]) (.ops [dO 31 (.mv (tM 5)), dO 32 (.mv (tM 6)), dO 33 (.mv (tM 5)), dO 34 (.mv (tM 7)), dO 35 (.mv (tM 5)), dO 36 (.mv (tM 7)), dO 37 (.indexAddr 1 (tM 35) (tM 36)), dO 38 (.load none (tM 37)), dO 39 (.mv (tM 5)), dO 40 (.mv (tM 6)), dO 41 (.indexAddr 1 (tM 39) (tM 40)), dO 42 (.load none (tM 41)), dO 43 (.indexAddr 1 (tM 31) (tM 32)), eO (.store 1 (tM 43) (tM 38)), dO 44 (.indexAddr 1 (tM 33) (tM 34)), eO (.store 1 (tM 44) (tM 42))]))) (.ops [dO 18 (.mv (tM 6)), dO 19 (.bin .add (tM 18) (cI 1)), dO 6 (.mv (tM 19))])))))) (.seq (.ops [dO 45 (.mv (tM 5)), dO 4 (.mv (tM 45))]) .ret)))⟩
theorem k19 : (cfgOf Tryz.prog byr).fns 19 = some c19 := by kernel_rfl
theorem t19 : T.fns 19 = some c19 := T_fns k19 (by decide) (by decide)
def c54 : IFunc := ⟨15, [.tmp 2], .seq (.ops [dO 2 (.mv (.const (.slice none [] true)))]) (.seq (.ops [dO 3 (.mv (.const (.slice none [] true)))]) (.seq (.seq (.ops [dO 4 (.mv (cI 0))]) (.block 0 (.loop (.seq (.seq (.ops [dO 5 (.mv (tM 4)), dO 6 (.mv (tM 0)), dO 7 (.bin .lss (tM 5) (tM 6))]) (.cond (tM 7) .skip (.exit 0))) (.seq (.block 1 (.ops [dO 10 (.mv (tM 3)), dO 11 (.mv (tM 4)), dO 12 (.buildSlice none [.int .i64 0] [(0, (1, tM 11))]), dO 13 (.append none 8 (tM 10) (tM 12)), dO 3 (.mv (tM 13))])) (.ops [dO 8 (.mv (tM 4)), dO 9 (.bin .add (tM 8) (cI 1)), dO 4 (.mv (tM 9))])))))) (.seq (.ops [dO 14 (.mv (tM 3)), dO 2 (.mv (tM 14))]) .ret)))⟩
theorem k54 : (cfgOf Tryz.prog byr).fns 54 = some c54 := by kernel_rfl
theorem t54 : T.fns 54 = some c54 := T_fns k54 (by decide) (by decide)
end Go.Ev.YtgehhippjhealaaGreatC
set_option linter.unusedSimpArgs false
set_option linter.unusedVariables false
namespace Go.Ev.YtgehhippjhealaaGreatC.P5
open Go
theorem wi_swp {l : List Order} {w : List Int} (hw : ∀ x ∈ w, 0 ≤ x) {D d : Int} {A B : List Int} {a b : Int} (hd : dueOf l b ≤ dueOf l a) (h : wi l w D d (A ++ a :: b :: B)) : wi l w D d (A ++ b :: a :: B) := by
 rw [wi_append] at h ⊢
 obtain ⟨h1, h2, h3, h4⟩ := h
 have ha := (wk_nonneg hw a)
 have hb := (wk_nonneg hw b)
 have e : d + sumW w A + wk w a + wk w b = d + sumW w A + wk w b + wk w a := by omega
 rw [e] at h4
 exact ⟨h1, by omega, by omega, h4⟩
theorem swp_delay {l : List Order} {w : List Int} (hw : ∀ x ∈ w, 0 ≤ x) (h0 : 0 < l.length) {A B : List Int} {a b : Int} (hs : Seq l.length (A ++ a :: b :: B)) (hs2 : Seq l.length (A ++ b :: a :: B)) (hd : dueOf l b ≤ dueOf l a) :
  delayOf l (A ++ b :: a :: B) w ≤ delayOf l (A ++ a :: b :: B) w :=
 (delay_le hs2 h0 _).2 (wi_swp hw hd ((delay_le hs h0 _).1 (Int.le_refl _)))
theorem seq_perm {n : Nat} {a b : List Int} (hs : Seq n a) (h : b.Perm a) : Seq n b :=
 ⟨by rw [h.length_eq]; exact hs.len, fun i hi => h.mem_iff.2 (hs.has i hi)⟩
def atR (l : List Order) (i : Int) : Int := ((seqOf l).idxOf i : Nat)
theorem atR_due {l : List Order} {a b : Int} (ha : 0 ≤ a ∧ a < l.length) (hb : 0 ≤ b ∧ b < l.length) (h : atR l a > atR l b) : dueOf l b ≤ dueOf l a := by
 have hso := seqOf_sorted l
 have ma := seqOf_mem.2 ha
 have mb := seqOf_mem.2 hb
 have la := List.idxOf_lt_length_of_mem ma
 have lb := List.idxOf_lt_length_of_mem mb
 have h' : (seqOf l).idxOf b < (seqOf l).idxOf a := by
  simp only [atR] at h
  omega
 have := List.pairwise_iff_getElem.1 hso _ _ lb la h'
 simpa using this
theorem step_late {l : List Order} {w : List Int} (hw : ∀ x ∈ w, 0 ≤ x) (h0 : 0 < l.length) {S : List Int} (hs : Seq l.length S) {k : Nat} (hk : desc (S.map (atR l)) 0 = some k) :
  Seq l.length (swp k S) ∧ delayOf l (swp k S) w ≤ delayOf l S w ∧ k + 1 < S.length := by
 have hlt := desc_lt hk
 rw [List.length_map] at hlt
 obtain ⟨A', x, y, B', he, hkA, hxy⟩ := desc_some _ 0 k hk
 rw [Nat.zero_add] at hkA
 obtain ⟨A, R, hS, hA, hR⟩ := List.map_eq_append_iff.1 he
 obtain ⟨a, R2, rfl, hx, hR2⟩ := List.map_eq_cons_iff.1 hR
 obtain ⟨b, B, rfl, hy, hB⟩ := List.map_eq_cons_iff.1 hR2
 have hkA2 : k = A.length := by rw [hkA, ← hA, List.length_map]
 subst hkA2
 subst hS
 rw [swp_at]
 have hp := seq_perm hs ((List.Perm.swap a b B).append_left A)
 have hm := hs.lt.1
 have ma := hm a (by simp)
 have mb := hm b (by simp)
 refine ⟨hp, swp_delay hw h0 hs hp (atR_due ma mb (by rw [hx, hy]; exact hxy)), hlt⟩
theorem end_late {l : List Order} {S : List Int} (hs : Seq l.length S) (hk : desc (S.map (atR l)) 0 = none) : S = seqOf l := by
 have hp := desc_none _ 0 hk
 have hperm : S.Perm (seqOf l) := hs.perm.trans (seqOf_perm l).symm
 have hsr : ((seqOf l).map (atR l)).Pairwise (· ≤ ·) := by
  rw [List.pairwise_map, List.pairwise_iff_getElem]
  intro i j hi hj hij
  simp only [atR]
  rw [List.Nodup.idxOf_getElem (seqOf_nodup l), List.Nodup.idxOf_getElem (seqOf_nodup l)]
  omega
 have hmap : S.map (atR l) = (seqOf l).map (atR l) := by
  refine List.Perm.eq_of_pairwise (le := fun a b : Int => a ≤ b) (fun a b _ _ h1 h2 => by omega) hp hsr (hperm.map _)
 have hinj : ∀ a ∈ S, ∀ b ∈ seqOf l, atR l a = atR l b → a = b := fun a ha b hb h => by
  have ma := hperm.mem_iff.1 ha
  have : (seqOf l).idxOf a = (seqOf l).idxOf b := by
   simp only [atR] at h
   omega
  have e1 := List.getElem_idxOf (List.idxOf_lt_length_of_mem ma)
  have e2 := List.getElem_idxOf (List.idxOf_lt_length_of_mem hb)
  rw [← e1, ← e2]
  simp only [this]
 have go : ∀ (X Y : List Int), X.map (atR l) = Y.map (atR l) → (∀ a ∈ X, ∀ b ∈ Y, atR l a = atR l b → a = b) → X = Y := fun X => by
  induction X with
  | nil =>
   intro Y h _
   cases Y with
   | nil => rfl
   | cons b r => cases h
  | cons a r ih =>
   intro Y h hi
   cases Y with
   | nil => cases h
   | cons b s =>
    simp only [List.map_cons, List.cons.injEq] at h
    rw [hi a (by simp) b (by simp) h.1, ih s h.2 fun x hx y hy => hi x (by simp [hx]) y (by simp [hy])]
 exact go _ _ hmap hinj
end Go.Ev.YtgehhippjhealaaGreatC.P5
set_option linter.unusedSimpArgs false
set_option linter.unusedVariables false
namespace Go.Ev.YtgehhippjhealaaGreatC
open Go Go.Proofs
def sw2 (S : List Int) (i k : Nat) : List Int := (S.set i (S.getD k 0)).set k (S.getD i 0)
theorem sw2_len (S : List Int) (i k : Nat) : (sw2 S i k).length = S.length := by simp [sw2]
theorem sw2_perm {S : List Int} {i k : Nat} (hi : i < S.length) (hk : k < S.length) : (sw2 S i k).Perm S := by
 have := List.set_set_perm hi hk
 have e1 : S.getD k 0 = S[k] := by rw [List.getD_eq_getElem?_getD, List.getElem?_eq_getElem hk]; rfl
 have e2 : S.getD i 0 = S[i] := by rw [List.getD_eq_getElem?_getD, List.getElem?_eq_getElem hi]; rfl
 rw [sw2, e1, e2]
 exact this
def gvL (n : Nat) (by_ : List Int) : Nat → List Int
 | 0 => nI6 (List.range n)
 | i + 1 => sw2 (gvL n by_ i) i (((by_.getD (i % by_.length) 0).toNat) % (i + 1))
theorem gvL_len (n : Nat) (w : List Int) : ∀ i, (gvL n w i).length = n
 | 0 => by simp [gvL, nI6]
 | i + 1 => by rw [gvL, sw2_len, gvL_len n w i]
theorem gvL_perm (n : Nat) (w : List Int) : ∀ i, i ≤ n → (gvL n w i).Perm (nI6 (List.range n))
 | 0, _ => List.Perm.refl _
 | i + 1, h => by
  have hl := gvL_len n w i
  have := Nat.mod_lt ((w.getD (i % w.length) 0).toNat) (show 0 < i + 1 by omega)
  exact (sw2_perm (by omega) (by omega)).trans (gvL_perm n w i (by omega))
def gvE (n : Nat) (w : List Int) : List Int := if w = [] then nI6 (List.range n) else gvL n w n
theorem gvE_perm (n : Nat) (w : List Int) : (gvE n w).Perm (nI6 (List.range n)) := by
 unfold gvE
 split
 ·exact List.Perm.refl _
 ·exact gvL_perm n w n (Nat.le_refl _)
theorem gvE_seq (n : Nat) (w : List Int) : P5.Seq n (gvE n w) :=
 P5.seq_perm (n := n) (a := nI6 (List.range n)) ⟨by simp [nI6], fun i hi => by simp [nI6]; exact ⟨i, hi, rfl⟩⟩ (gvE_perm n w)
attribute [local irreducible] Res.all evC evLoop evOps evOper evOp evFn evCall freeze G GO GV GP GC R
set_option maxRecDepth 100000
theorem con_rSame6 (l : List Int) (h10 : l.length ≤ 1000) : Con T 1 32 [intsS l, intsS l] (.bool true) := by
 refine con_intro t32 fun n hn V hV => ?_
 have e0 : ((l.length : Int) != l.length) = false := by simp
 simp (disch := omega) only [c32, go_sem, ↓reduceIte, e0]
 refine m_loop (fun M s => ∃ k : Nat, M = l.length - k ∧ k ≤ l.length ∧ At s.env [(0, intsS l), (1, intsS l), (5, .int .i64 k)]) l.length (by omega) ⟨0, by simp, by omega, by simp only [go_sem, ↓reduceIte]⟩ ?_
 rintro M e h hM ⟨k, rfl, hk, hE⟩ P hP
 simp only [At_cons, At_nil] at hE
 obtain ⟨h0, h1, h5, -⟩ := hE
 by_cases hlt : k < l.length
 ·obtain ⟨y, hy⟩ := get_ex hlt
  have ey : (y != y) = false := by simp
  have hlt' : (k : Int) < (l.length : Int) := by omega
  simp (disch := omega) only [go_sem, ↓reduceIte, h0, h1, h5, hlt', hy, ey]
  exact hP (l.length - (k + 1)) _ (by omega) ⟨k + 1, rfl, by omega, by simp only [go_sem, ↓reduceIte, h0, h1]⟩
 ·have hlt' : ¬ (k : Int) < (l.length : Int) := by omega
  simp (disch := omega) only [go_sem, ↓reduceIte, h0, h1, h5, hlt']
  exact hV _ _ (frz_bool _ _ _)
theorem con_lInts6 (l : List Int) (h10 : l.length ≤ 1000) : Con T 2 14 [intsS l, intsS l] (.bool true) := by
 refine con_intro t14 fun n hn V hV => ?_
 simp (disch := omega) only [c14, go_sem, ↓reduceIte]
 refine gp_con (con_rSame6 l h10) hn (fz_slice _ _ _ _ (fz_slice _ _ _ _ (fz_nil _))) (or_pb _ _) ?_
 simp (disch := omega) only [go_sem, ↓reduceIte]
 exact hV _ _ (frz_bool _ _ _)
section
variable {n base : Nat} {Q : EX × St → Prop} {d : Option Nat} {L : List IOper} {ks : List Kont} {e : Env} {h : Heap}
theorem gp_appendE {call : Caller} {b m kk : Nat} {y : AV} {k : IntKind} {l2 : List Int} (hkk : kk = h.length) (hy : cellsOfSlice h y = some (none, m, l2.map (.int k))) (hm : m = l2.length) (hm0 : 0 < m) (hr : m * b ≤ 1099511627776)
  (H : GO call base Q L ks ⟨setDst e d (.oslice h.length (getH h h.length).next none 0 l2.length none), setH h h.length (.cells (getH h h.length).next (l2.map (.int k)))⟩) :
  GP call base Q d L ks e (evAppend kk none b (.slice none [] true) y h) := by
 subst hm hkk
 have hroom := room_ok hr
 have h0 : ¬ l2.length = 0 := by omega
 have : evAppend h.length none b (.slice none [] true) y h = .ret (.oslice h.length (getH h h.length).next none 0 l2.length none, setH h h.length (.cells (getH h h.length).next (l2.map (.int k)))) := by
  simp only [evAppend, hy, List.length_nil, hroom, ne_eq, not_true_eq_false, if_false, Bool.true_eq_false, or_self, h0, Nat.zero_add, flat, List.nil_append]
 rw [this, gp_ret]
 exact H
theorem gp_copyS {l : List Int} {x : AV} (h1 : 1 ≤ l.length) (h10 : l.length ≤ 1000) (hx : cellsOfSlice (h ++ List.replicate 6 .none) x = some (none, l.length, l.map (.int .i64)))
  (hq : ∀ key ver h', getH h' key = .cells ver (l.map (.int .i64)) → h.length ≤ key → key < h'.length → (∀ j, j < h.length → getH h' j = getH h j) → h.length ≤ h'.length → GO (evCall T (n + 1)) base Q L ks ⟨setDst e d (.oslice key ver none 0 l.length none), h'⟩) :
  GP (evCall T (n + 1)) base Q d L ks e (evCall T (n + 1) true (.fn 15) [x] h) := by
 refine gp_of ?_
 rw [raw_enter t15]
 simp (disch := omega) only [c15, go_sem, ↓reduceIte]
 refine gp_appendE (m := l.length) (l2 := l) (by simp only [List.length_append, List.length_replicate]) hx rfl (by omega) (by omega) ?_
 simp (disch := omega) only [go_sem, ↓reduceIte, pack, mapR]
 refine hq _ _ _ (getH_setH_self ..) (by simp) (by simp only [length_setH, List.length_append, List.length_replicate]; omega) (fun j hj => ?_) (by simp only [length_setH, List.length_append, List.length_replicate]; omega)
 rw [getH_setH_ne _ _ _ _ (by simp; omega), getH_append_none]
theorem gp_rightS {N : Nat} (h1 : N ≤ 1000)
  (hq : ∀ x h', Own h.length h' x .i64 (nI6 (List.range N)) → (∀ j, j < h.length → getH h' j = getH h j) → h.length ≤ h'.length → GO (evCall T (n + 1)) base Q L ks ⟨setDst e d x, h'⟩) :
  GP (evCall T (n + 1)) base Q d L ks e (evCall T (n + 1) true (.fn 54) [.int .i64 (N : Nat)] h) := by
 refine gp_of ?_
 rw [raw_enter t54]
 simp (disch := omega) only [c54, go_sem, ↓reduceIte]
 refine m_loop (fun M s => ∃ (k : Nat) (x : AV), M = N - k ∧ k ≤ N ∧ At s.env [(0, .int .i64 N), (3, x), (4, .int .i64 k)] ∧ Own (h.length + 15) s.heap x .i64 (nI6 (List.range k)) ∧ (∀ j, j < h.length → getH s.heap j = getH h j) ∧ h.length + 15 ≤ s.heap.length) N (by omega)
  ⟨0, _, by omega, by omega, by simp only [go_sem, ↓reduceIte], own_nil .., fun j hj => by simp only [getH_append_none], by simp⟩ ?_
 rintro M e' h' hM ⟨k, x, rfl, hk, hE, hO, hF, hL⟩ P hP
 simp only [At_cons, At_nil] at hE hO hF hL
 obtain ⟨f0, f3, f4, -⟩ := hE
 by_cases hlt : k < N
 ·have hlt' : (k : Int) < (N : Int) := by omega
  simp (disch := omega) only [go_sem, ↓reduceIte, f0, f3, f4, hlt']
  refine gp_append1 (by first | with_reducible rfl | (simp only [length_setH, List.length_append, List.length_replicate]; done) | (simp only [length_setH, List.length_append, List.length_replicate]; omega)) hO (by omega) (by simp [nI6]; omega) fun x' h2 hO' hF' hL' _ _ => ?_
  simp (disch := omega) only [go_sem, ↓reduceIte, f4]
  refine hP (N - (k + 1)) _ (by omega) ⟨k + 1, x', rfl, by omega, by simp only [go_sem, ↓reduceIte, f0], ?_, fun j hj => by rw [hF' j (by omega), hF j hj], (by omega : h.length + 15 ≤ h2.length)⟩
  have : nI6 (List.range (k + 1)) = nI6 (List.range k) ++ [(k : Int)] := by simp [nI6, List.range_succ]
  rw [this]
  exact hO'
 ·obtain rfl : k = N := by omega
  have hlt' : ¬ (k : Int) < (k : Int) := by omega
  simp (disch := omega) only [go_sem, ↓reduceIte, f3, f4, f0, hlt', pack, mapR]
  refine hq _ _ ?_ hF (by omega)
  rcases hO with ⟨a, b⟩ | ⟨key, ver, a, b, c⟩
  ·exact .inl ⟨a, b⟩
  ·exact .inr ⟨key, ver, by omega, b, c⟩
end
theorem con_givenS (N : Nat) (w : List Int) (h1 : 1 ≤ N) (h10 : N ≤ 10) (hw : ∀ x ∈ w, 0 ≤ x ∧ x ≤ 255) (hwl : w.length ≤ 30) :
  ConF T 3 19 [.int .i64 (N : Nat), .slice none (w.map (.int .u8)) false] (intsS (gvE N w)) := by
 refine conF_intro t19 fun n hn V hV => ?_
 obtain ⟨n, rfl⟩ : ∃ n', n = n' + 1 := ⟨n - 1, by omega⟩
 simp (disch := omega) only [c19, go_sem, ↓reduceIte]
 refine gp_rightS (N := N) (by omega) fun x h' hO _ hL => ?_
 simp only [List.length_replicate] at hL
 rcases hO with ⟨hnil, _⟩ | ⟨key, ver, hkey, rfl, hH⟩
 ·have := congrArg List.length hnil
  simp [nI6] at this
  omega
 have hl0 : (nI6 (List.range N)).length = N := by simp [nI6]
 simp (disch := omega) only [go_sem, ↓reduceIte, hl0]
 by_cases hw0 : w = []
 ·subst hw0
  have e0 : (0 : Int) < (N : Int) := by omega
  have hg : gvE N [] = nI6 (List.range N) := rfl
  rw [hg] at hV
  refine m_loop (fun M s => s = ⟨_, _⟩) 0 (by omega) rfl ?_
  rintro M e h hM hE P hP
  obtain ⟨rfl, rfl⟩ := St.mk.inj hE
  simp (disch := omega) only [go_sem, ↓reduceIte, e0, List.map_nil]
  exact hV _ _ (frz_own hH (by rw [hl0])) (fresh_own hH)
 have hwp : 0 < w.length := List.length_pos_iff.2 hw0
 have hg : gvE N w = gvL N w N := by rw [gvE, if_neg hw0]
 rw [hg] at hV
 have hlt0 := getH_lt hH (by simp)
 refine m_loop (fun M s => ∃ (k : Nat), M = N - k ∧ k ≤ N ∧ At s.env [(0, .int .i64 N), (1, .slice none (w.map (.int .u8)) false), (5, .oslice key ver none 0 N none), (6, .int .i64 k)] ∧ getH s.heap key = .cells ver ((gvL N w k).map (.int .i64))) N (by omega)
  ⟨0, by omega, by omega, by simp only [go_sem, ↓reduceIte], by rw [gvL]; exact hH⟩ ?_
 rintro M e h hM ⟨k, rfl, hk, hE, hH⟩ P hP
 simp only [At_cons, At_nil] at hE hH
 obtain ⟨f0, f1, f5, f6, -⟩ := hE
 have hl := gvL_len N w k
 have hwl' : (0 : Int) < (w.length : Int) := by omega
 by_cases hlt : k < N
 ·have hlt' : (k : Int) < (N : Int) := by omega
  have hm := Nat.mod_lt k hwp
  have hr1 := b_rem .i64 k w.length hwp
  have hgw : w[k % w.length]? = some (w.getD (k % w.length) 0) := by rw [List.getD_eq_getElem?_getD, List.getElem?_eq_getElem hm]; rfl
  have hb := hw _ (List.mem_of_getElem? hgw)
  obtain ⟨b, hb2⟩ := Int.eq_ofNat_of_zero_le hb.1
  rw [hb2] at hgw hb
  have hbw : IntKind.i64.wrap (b : Int) = b := wrap64 (by omega) (by omega)
  have hr2 := b_rem1 .i64 b k
  have hmb := Nat.mod_lt b (show 0 < k + 1 by omega)
  have gk : (gvL N w k)[b % (k + 1)]? = some ((gvL N w k).getD (b % (k + 1)) 0) := gdI (by omega)
  have gi : (gvL N w k)[k]? = some ((gvL N w k).getD k 0) := gdI (by omega)
  have hnx : gvL N w (k + 1) = sw2 (gvL N w k) k (b % (k + 1)) := by rw [gvL, hb2, Int.toNat_natCast]
  generalize hkk : b % (k + 1) = kk at *
  have hkN : kk < N := by omega
  have l3 : kk + 1 ≤ N := by omega
  have l1 : k + 1 ≤ (gvL N w k).length := by omega
  have l2 : kk + 1 ≤ ((gvL N w k).set k ((gvL N w k).getD kk 0)).length := by rw [List.length_set]; omega
  have s1 : ((gvL N w k).map (AV.int .i64)).set k (.int .i64 ((gvL N w k).getD kk 0)) = ((gvL N w k).set k ((gvL N w k).getD kk 0)).map (.int .i64) := by rw [List.map_set]
  have s2 : (((gvL N w k).set k ((gvL N w k).getD kk 0)).map (AV.int .i64)).set kk (.int .i64 ((gvL N w k).getD k 0)) = (gvL N w (k + 1)).map (.int .i64) := by rw [hnx, sw2]; simp only [List.map_set]
  simp (disch := omega) only [go_sem, ↓reduceIte, f0, f1, f5, f6, hlt', hwl', hr1, hgw, hbw, hr2, gk, gi, hH, hkN, hlt, l1, l2, s1, s2]
  exact hP (N - (k + 1)) _ (by omega) ⟨k + 1, rfl, by omega, by simp only [go_sem, ↓reduceIte, f0, f1, f5], by simp only [go_sem, ↓reduceIte]⟩
 ·obtain rfl : k = N := by omega
  have hlt' : ¬ (k : Int) < (k : Int) := by omega
  simp (disch := omega) only [go_sem, ↓reduceIte, f0, f1, f5, f6, hlt', hwl']
  exact hV _ _ (frz_own hH (by rw [hl])) (fresh_own hH)
end Go.Ev.YtgehhippjhealaaGreatC
set_option linter.unusedSimpArgs false
set_option linter.unusedVariables false
namespace Go.Ev.YtgehhippjhealaaGreatC
open Go Go.Proofs
open P5 (Order chk seqOf delayOf refDelay side Seq Valid workOk atR)
theorem seq_permN {n : Nat} {S : List Int} (hs : Seq n S) : ∃ p, S = nI6 p ∧ PermN p ∧ p.length = n := by
 obtain ⟨h1, h2⟩ := hs.lt
 refine ⟨S.map Int.toNat, ?_, ⟨?_, ?_⟩, by rw [List.length_map, hs.len]⟩
 ·rw [nI6, List.map_map]
  refine (List.map_id S).symm.trans (List.map_congr_left fun x hx => ?_)
  have := h1 x hx
  simp only [Function.comp, id]
  omega
 ·exact List.pairwise_map.2 (h2.imp_of_mem fun {a b} ha hb hab h => hab (by have := h1 a ha; have := h1 b hb; omega))
 ·intro x hx
  obtain ⟨y, hy, rfl⟩ := List.mem_map.1 hx
  have := h1 y hy
  rw [List.length_map, hs.len]
  omega
theorem seqOf_seq (l : List Order) : Seq l.length (seqOf l) := ⟨P5.seqOf_length l, fun i hi => P5.seqOf_mem.2 (by omega)⟩
theorem map_atR_seq {l : List Order} {S : List Int} (hs : Seq l.length S) : Seq l.length (S.map (atR l)) := by
 refine ⟨by rw [List.length_map, hs.len], fun i hi => ?_⟩
 have hi2 : i < (seqOf l).length := by rw [P5.seqOf_length]; exact hi
 have hm : (seqOf l)[i] ∈ seqOf l := List.getElem_mem hi2
 have hb := P5.seqOf_mem.1 hm
 have hmS := hs.has ((seqOf l)[i]).toNat (by omega)
 rw [Int.toNat_of_nonneg hb.1] at hmS
 refine List.mem_map.2 ⟨_, hmS, ?_⟩
 rw [atR, List.Nodup.idxOf_getElem (P5.seqOf_nodup l)]
theorem workOk_side : ∀ (l : List Order) (s : Int), (∀ o ∈ l, P5.Ok o) → workOk l (side l s) = true
 | [], s, _ => rfl
 | o :: r, s, h => by
  have ho := h o (by simp)
  have hlh := ho.lh
  have ih := workOk_side r s fun o ho => h o (by simp [ho])
  simp only [side, List.map_cons, workOk, Bool.and_eq_true, decide_eq_true_eq]
  refine ⟨⟨?_, ?_⟩, ih⟩
  ·split <;> omega
  ·split <;> omega
theorem refDelay_side {l : List Order} {S : List Int} (s : Int) (hc : chk l = 0) (h0 : 0 < l.length) (hs : Seq l.length S) : refDelay l S (side l s) = (delayOf l S (side l s), 0) := by
 have hv := (P5.chk_zero l).1 hc
 have h1 : P5.chkSeq l S = 0 := (P5.chkSeq_zero l S).2 ⟨hv, hs⟩
 have h2 : P5.chkWork l S (side l s) = 0 := by
  rw [P5.chkWork, if_neg (by omega), if_neg (by simp [side]), if_pos (workOk_side l s hv.ok)]
 rw [refDelay, if_neg (by omega), if_neg (by omega)]
theorem side_nonneg {l : List Order} (s : Int) (hc : chk l = 0) : ∀ x ∈ side l s, 0 ≤ x := by
 intro x hx
 obtain ⟨o, ho, rfl⟩ := List.mem_map.1 hx
 have := ((P5.chk_zero l).1 hc).ok o ho
 have h1 := this.lo
 have h2 := this.lh
 split <;> omega
theorem atR_get {l : List Order} {A : List Int} (hA : A.length = l.length) (h : ∀ j, j < l.length → A[((seqOf l).getD j 0).toNat]? = some (j : Int)) {i : Int} (hi : 0 ≤ i ∧ i < l.length) : A[i.toNat]? = some (atR l i) := by
 have hm := P5.seqOf_mem.2 hi
 have hlt := List.idxOf_lt_length_of_mem hm
 have := h ((seqOf l).idxOf i) (by rw [← P5.seqOf_length l]; exact hlt)
 rw [List.getD_eq_getElem?_getD, List.getElem?_eq_getElem hlt, Option.getD_some, List.getElem_idxOf hlt] at this
 exact this
theorem atR_set {l : List Order} {A : List Int} {k : Nat} (hk : k < l.length) (hA : A.length = l.length) (h : ∀ j, j < k → A[((seqOf l).getD j 0).toNat]? = some (j : Int)) :
  ∀ j, j < k + 1 → (A.set ((seqOf l).getD k 0).toNat (k : Int))[((seqOf l).getD j 0).toNat]? = some (j : Int) := by
 intro j hj
 have hsl := P5.seqOf_length l
 have gd : ∀ i, (hi : i < l.length) → (seqOf l).getD i 0 = (seqOf l)[i]'(by omega) := fun i hi => by rw [List.getD_eq_getElem?_getD, List.getElem?_eq_getElem (by omega)]; rfl
 have bk := P5.seqOf_mem.1 (List.getElem_mem (l := seqOf l) (n := k) (by omega))
 rw [← gd k hk] at bk
 by_cases hjk : j = k
 ·subst hjk
  rw [List.getElem?_set_self (by omega)]
 ·have bj := P5.seqOf_mem.1 (List.getElem_mem (l := seqOf l) (n := j) (by omega))
  rw [← gd j (by omega)] at bj
  have hne : (seqOf l).getD k 0 ≠ (seqOf l).getD j 0 := by
   rw [gd k hk, gd j (by omega)]
   intro he
   have e1 := List.Nodup.idxOf_getElem (P5.seqOf_nodup l) k (by omega)
   have e2 := List.Nodup.idxOf_getElem (P5.seqOf_nodup l) j (by omega)
   rw [he, e2] at e1
   omega
  rw [List.getElem?_set_ne (by omega)]
  exact h j (by omega)
theorem seqOf_at {l : List Order} {k : Nat} (hk : k < l.length) : (seqOf l)[k]? = some ((seqOf l).getD k 0) ∧ 0 ≤ (seqOf l).getD k 0 ∧ (seqOf l).getD k 0 < l.length := by
 have hsl := P5.seqOf_length l
 have gd : (seqOf l).getD k 0 = (seqOf l)[k]'(by omega) := by rw [List.getD_eq_getElem?_getD, List.getElem?_eq_getElem (by omega)]; rfl
 have bk := P5.seqOf_mem.1 (List.getElem_mem (l := seqOf l) (n := k) (by omega))
 rw [gd]
 exact ⟨List.getElem?_eq_getElem _, bk⟩
theorem steps_drop {J : List Int} {s : List Nat} {i : Nat} (h : s.drop i = steps J) (hi : i < s.length) : ∃ k, desc J 0 = some k ∧ s[i]? = some k ∧ s.drop (i + 1) = steps (swp k J) := by
 rw [List.drop_eq_getElem_cons hi] at h
 cases hd : desc J 0 with
 | none => rw [steps_none hd] at h; cases h
 | some k =>
  rw [steps_some hd] at h
  obtain ⟨h1, h2⟩ := List.cons.inj h
  exact ⟨k, rfl, by rw [List.getElem?_eq_getElem hi, h1], h2⟩
theorem steps_end {J : List Int} {s : List Nat} (h : s.drop s.length = steps J) : desc J 0 = none := by
 rw [List.drop_length] at h
 cases hd : desc J 0 with
 | none => rfl
 | some k => rw [steps_some hd] at h; cases h
end Go.Ev.YtgehhippjhealaaGreatC
set_option linter.unusedSimpArgs false
set_option linter.unusedVariables false
namespace Go.Ev.YtgehhippjhealaaGreatC
open Go Go.Proofs
open P5 (Order ords oAV ints side chk seqOf delayOf refDelay refShort refSeq delayV seqV shortV atR Seq)
def sOf (b : Bool) : Int := if b then 1 else 0
def LsI (h : Heap) (x : AV) (S : List Int) : Prop := (∃ ex, x = .slice none (S.map (.int .i64)) ex) ∨ ∃ key ver, x = .oslice key ver none 0 S.length none ∧ getH h key = .cells ver (S.map (.int .i64))
theorem LsI.cs {h : Heap} {x : AV} {S : List Int} (hx : LsI h x S) (m : Nat) : cellsOfSlice (h ++ List.replicate m .none) x = some (none, S.length, S.map (.int .i64)) := by
 rcases hx with ⟨ex, rfl⟩ | ⟨key, ver, rfl, hH⟩
 ·exact cs_ints _ S .i64 ex
 ·have := cs_own (h := h ++ List.replicate m .none) (key := key) (ver := ver) (off := 0) (len := S.length) (cap := none) (k := .i64) (l := S) (by rw [getH_append_none, hH]) (by omega)
  rw [this]
  simp
theorem LsI.frz {h : Heap} {x : AV} {S : List Int} (hx : LsI h x S) : freeze h 8 x = .ret (intsS S) := by
 rcases hx with ⟨ex, rfl⟩ | ⟨key, ver, rfl, hH⟩
 ·exact frz_slice _ _ _ _ _
 ·exact frz_own hH rfl
attribute [local irreducible] Res.all evC evLoop evOps evOper evOp evFn evCall freeze G GO GV GP GC R
set_option maxRecDepth 100000
set_option maxHeartbeats 4000000 in
theorem topStepped_at (kw n : Nat) (hw : Con T kw 8 [] (.bool true)) (hn : kw ≤ n) (hn2 : 1100 ≤ n) (l : List Order) (w : List Int) (most : Bool) (hwb : ∀ x ∈ w, 0 ≤ x ∧ x ≤ 255) :
  (evFn (evCall T n) c4 [ords l, .slice none (w.map (.int .u8)) false, .bool most] []).all fun p => p.1 = .bool true := by
 obtain ⟨n, rfl⟩ : ∃ n', n = n' + 1 := ⟨n - 1, by omega⟩
 rw [m_fn]
 have csW : ∀ {base : Nat} {Q : EX × St → Prop} {d : Option Nat} {L : List IOper} {ks : List Kont} {e : Env} {h : Heap}, GP (evCall T (n + 1)) base Q d L ks e (evCall T (n + 1) false (.fn 8) [] h) = GO (evCall T (n + 1)) base Q L ks ⟨setDst e d (.bool true), h⟩ :=
  gp_eq hw hn (fz_nil _) rfl
 by_cases h1 : (l.length : Int) < 1
 ·simp (disch := omega) only [c4, go_sem, ↓reduceIte, List.length_map, h1, csW]
 by_cases h10 : (10 : Int) < (l.length : Int)
 ·simp (disch := omega) only [c4, go_sem, ↓reduceIte, List.length_map, h1, h10, gt_iff_lt, csW]
 have hl15 : l.length ≤ 15 := by omega
 have cs24 : ∀ {base : Nat} {Q : EX × St → Prop} {d : Option Nat} {L : List IOper} {ks : List Kont} {e : Env} {h : Heap}, GP (evCall T (n + 1)) base Q d L ks e (evCall T (n + 1) false (.fn 17) [ords l] h) = GO (evCall T (n + 1)) base Q L ks ⟨setDst e d (.int .i64 (chk l)), h⟩ :=
  gp_eq (P5.con_24 l hl15) (by omega) (fz_slice _ _ _ _ (fz_nil _)) rfl
 by_cases hc : chk l ≠ 0
 ·have hc' : (chk l != 0) = true := by simpa using hc
  simp (disch := omega) only [c4, go_sem, ↓reduceIte, List.length_map, h1, h10, gt_iff_lt, cs24, hc', csW]
 replace hc : chk l = 0 := Decidable.not_not.1 hc
 have hc' : ((0 : Int) != 0) = false := rfl
 by_cases h30 : (30 : Int) < (w.length : Int)
 ·simp (disch := omega) only [c4, go_sem, ↓reduceIte, List.length_map, h1, h10, gt_iff_lt, cs24, hc, hc', h30, csW]
 simp (disch := omega) only [c4, go_sem, ↓reduceIte, List.length_map, h1, h10, gt_iff_lt, cs24, hc, hc', h30]
 have hside : (side l (sOf most)).length = l.length := by simp [P5.side]
 refine m_loop (fun M st => ∃ (k : Nat) (x : AV) (κ : Int), M = l.length - k ∧ k ≤ l.length ∧ (k = 0 → κ = 0) ∧ (0 < k → κ = sOf most) ∧ At st.env [(0, ords l), (1, .slice none (w.map (.int .u8)) false), (2, .bool most), (7, .int .i64 l.length), (8, .int .i64 κ), (9, x), (10, .int .i64 k)] ∧ Own 232 st.heap x .i64 ((side l (sOf most)).take k) ∧ 232 ≤ st.heap.length) l.length (by omega)
  ⟨0, .slice none [] true, 0, by omega, by omega, fun _ => rfl, fun h => by omega, by simp only [go_sem, ↓reduceIte], own_nil .., by simp⟩ ?_
 rintro M e h hM ⟨k, x, κ, rfl, hk, k0, k1, hE, hO, hL⟩ P hP
 simp only [At_cons, At_nil] at hE hO hL
 obtain ⟨f0, f1, f2, f7, f8, f9, f10, -⟩ := hE
 by_cases hlt : k < l.length
 ·have hlt' : (k : Int) < (l.length : Int) := by omega
  obtain ⟨o, ho⟩ := get_ex hlt
  have hstep := P5.side_step (s := sOf most) ho
  have hx3 : l.length - (k + 1) < l.length - k := by omega
  have htl : ((side l (sOf most)).take k).length = k := by rw [List.length_take]; omega
  cases most with
  | false =>
   obtain rfl : κ = 0 := by
    rcases Nat.eq_zero_or_pos k with hk0 | hk0
    ·exact k0 hk0
    ·exact k1 hk0
   simp (disch := omega) only [go_sem, ↓reduceIte, f0, f1, f2, f7, f9, f10, hlt', ho, oAV]
   refine gp_append1 (by first | with_reducible rfl | (simp only [length_setH, List.length_append, List.length_replicate]; done) | (simp only [length_setH, List.length_append, List.length_replicate]; omega)) hO hL (by omega) fun x' h' hO' hF hL' _ _ => ?_
   simp (disch := omega) only [go_sem, ↓reduceIte, f10]
   refine hP (l.length - (k + 1)) _ hx3 ⟨k + 1, x', 0, rfl, by omega, fun h => by omega, fun _ => rfl, by simp only [go_sem, ↓reduceIte, f0, f1, f2, f7, f8], ?_, (show 232 ≤ h'.length by omega)⟩
   rw [hstep]
   exact hO'
  | true =>
   simp (disch := omega) only [go_sem, ↓reduceIte, f0, f1, f2, f7, f9, f10, hlt', ho, oAV]
   refine gp_append1 (by first | with_reducible rfl | (simp only [length_setH, List.length_append, List.length_replicate]; done) | (simp only [length_setH, List.length_append, List.length_replicate]; omega)) hO hL (by omega) fun x' h' hO' hF hL' _ _ => ?_
   simp (disch := omega) only [go_sem, ↓reduceIte, f10]
   refine hP (l.length - (k + 1)) _ hx3 ⟨k + 1, x', 1, rfl, by omega, fun h => by omega, fun _ => rfl, by simp only [go_sem, ↓reduceIte, f0, f1, f2, f7], ?_, (show 232 ≤ h'.length by omega)⟩
   rw [hstep]
   exact hO'
 obtain rfl : k = l.length := by omega
 have hlt' : ¬ (l.length : Int) < (l.length : Int) := by omega
 obtain rfl : κ = sOf most := k1 (by omega)
 rw [List.take_of_length_le (by omega)] at hO
 have cs26 : ∀ {base : Nat} {Q : EX × St → Prop} {d : Option Nat} {L : List IOper} {ks : List Kont} {e : Env} {h : Heap}, GP (evCall T (n + 1)) base Q d L ks e (evCall T (n + 1) false (.fn 18) [ords l] h) = GO (evCall T (n + 1)) base Q L ks ⟨setDst e d (.tuple [ints (seqOf l), .int .i64 0]), h⟩ := by
  intro base Q d L ks e h
  have := gp_eq (base := base) (Q := Q) (d := d) (l := L) (ks := ks) (e := e) (h := h) (n := n + 1) (as0 := [ords l]) (P5.con_26 l hl15) (by omega) (fz_slice _ _ _ _ (fz_nil _)) rfl
  rw [this, seqV, refSeq, if_neg (by omega)]
 obtain ⟨p, hp, hpp, hpl⟩ := seq_permN (seqOf_seq l)
 have csJ : ∀ {base : Nat} {Q : EX × St → Prop} {d : Option Nat} {L : List IOper} {ks : List Kont} {e : Env} {h : Heap}, GP (evCall T (n + 1)) base Q d L ks e (evCall T (n + 1) false (.fn 7) [ints (seqOf l)] h) = GO (evCall T (n + 1)) base Q L ks ⟨setDst e d (.int .i64 0), h⟩ := by
  intro base Q d L ks e h
  have := gp_eq (base := base) (Q := Q) (d := d) (l := L) (ks := ks) (e := e) (h := h) (n := n + 1) (as0 := [ints (seqOf l)]) (con_rCheckJ (seqOf l)) (by omega) (fz_slice _ _ _ _ (fz_nil _)) rfl
  rw [hp] at this ⊢
  rw [this, chkJ_ok hpp (by omega) (by omega)]
 have hsl := P5.seqOf_length l
 have enn : ((l.length : Int) != (l.length : Int)) = false := by simp
 have asn : asNat (.int .i64 (l.length : Int)) = some l.length := asNat_nat _ _
 have hrm : l.length * 8 ≤ 1099511627776 := by omega
 simp (disch := omega) only [go_sem, ↓reduceIte, f0, f1, f2, f7, f10, hlt', cs26, csJ, hc', hsl, enn, asn, hrm]
 have hK := getH_ge h h.length (Nat.le_refl _)
 generalize hver : (getH h h.length).next = ver
 have hfl : (List.replicate l.length [AV.int .i64 0]).flatten = (List.replicate l.length (0 : Int)).map (.int .i64) := by
  rw [List.map_replicate]
  simp
 rw [hfl]
 have hkx := hO.keyLt
 have hO2 : ∀ v, Own 232 (setH h h.length v) x .i64 (side l (sOf most)) := fun v => hO.other fun j hj => getH_setH_ne _ _ _ _ (by have := hkx j hj; omega)
 refine m_loop (fun M st => ∃ (k : Nat) (A : List Int), M = l.length - k ∧ k ≤ l.length ∧ A.length = l.length ∧ (∀ j, j < k → A[((seqOf l).getD j 0).toNat]? = some (j : Int)) ∧ At st.env [(0, ords l), (1, .slice none (w.map (.int .u8)) false), (7, .int .i64 l.length), (8, .int .i64 (sOf most)), (9, x), (12, ints (seqOf l)), (14, .oslice h.length ver none 0 l.length (some l.length)), (15, .int .i64 k)] ∧ getH st.heap h.length = .cells ver (A.map (.int .i64)) ∧ Own 232 st.heap x .i64 (side l (sOf most)) ∧ h.length < st.heap.length) l.length (by omega)
  ⟨0, List.replicate l.length 0, by omega, by omega, by simp, fun j hj => absurd hj (by omega), by simp only [go_sem, ↓reduceIte, f0, f1, f7, f8, f9], by simp only [go_sem, ↓reduceIte], hO2 _, by simp only [length_setH]; omega⟩ ?_
 clear f0 f1 f2 f7 f8 f9 f10 hM hP P
 rintro M e h' hM ⟨k, A, rfl, hk, hAl, hA, hE, hH, hO3, hL3⟩ P hP
 simp only [At_cons, At_nil] at hE hH hO3 hL3
 obtain ⟨f0, f1, f7, f8, f9, f12, f14, f15, -⟩ := hE
 generalize hKd : h.length = K at *
 by_cases hlt : k < l.length
 ·have hlt'' : (k : Int) < (l.length : Int) := by omega
  obtain ⟨g1, g2, g3⟩ := seqOf_at hlt
  have hA2 := atR_set hlt hAl hA
  generalize hb : (seqOf l).getD k 0 = b at *
  obtain ⟨b, rfl⟩ := Int.eq_ofNat_of_zero_le g2
  rw [Int.toNat_natCast] at hA2
  have b3 : b < l.length := by omega
  have b4 : b + 1 ≤ A.length := by omega
  have s1 : (A.map (AV.int .i64)).set b (.int .i64 k) = (A.set b k).map (.int .i64) := by rw [List.map_set]
  simp (disch := omega) only [go_sem, ↓reduceIte, f0, f1, f7, f9, f12, f14, f15, hlt'', g1, b3, b4, hH, s1]
  refine hP (l.length - (k + 1)) _ (by omega) ⟨k + 1, A.set b k, rfl, by omega, by rw [List.length_set, hAl], hA2, by simp only [go_sem, ↓reduceIte, f0, f1, f7, f8, f9, f12, f14], by simp only [go_sem, ↓reduceIte], ?_, by simp only [length_setH]; omega⟩
  exact hO3.other fun j hj => getH_setH_ne _ _ _ _ (by have := hkx j hj; omega)
 obtain rfl : k = l.length := by omega
 replace hA : ∀ {i : Int}, 0 ≤ i ∧ i < l.length → A[i.toNat]? = some (atR l i) := fun hi => atR_get hAl hA hi
 obtain ⟨S, hSd⟩ : ∃ S, S = gvE l.length w := ⟨_, rfl⟩
 have hS : Seq l.length S := by rw [hSd]; exact gvE_seq _ _
 have hSl := hS.len
 have hSb := hS.lt.1
 have cG : ConF T 3 19 [.int .i64 (l.length : Nat), .slice none (w.map (.int .u8)) false] (intsS S) := by
  rw [hSd]
  exact con_givenS l.length w (by omega) (by omega) hwb (by omega)
 simp (disch := omega) only [go_sem, ↓reduceIte, f0, f1, f7, f12, f14, f15, hlt']
 refine gpF_con cG (by omega) (by repeat (first | exact fz_nil _ | refine fz_slice _ _ _ _ ?_ | refine fz_int _ _ _ ?_)) ?_
 simp (disch := omega) only [go_sem, ↓reduceIte]
 have hkx3 := hO3.keyLt
 refine m_loop (fun M st => ∃ (k : Nat) (y : AV), M = l.length - k ∧ k ≤ l.length ∧ At st.env [(0, ords l), (7, .int .i64 l.length), (8, .int .i64 (sOf most)), (9, x), (12, ints (seqOf l)), (14, .oslice K ver none 0 l.length (some l.length)), (16, intsS S), (17, y), (18, .int .i64 k)] ∧ Own h'.length st.heap y .i64 ((S.map (atR l)).take k) ∧ (∀ j, j < h'.length → getH st.heap j = getH h' j) ∧ h'.length ≤ st.heap.length) l.length (by omega)
  ⟨0, .slice none [] true, by omega, by omega, by simp only [go_sem, ↓reduceIte, f0, f7, f8, f9, f12, f14], own_nil .., fun _ _ => rfl, Nat.le_refl _⟩ ?_
 clear f0 f1 f7 f8 f9 f12 f14 f15 hM hP P
 rintro M e h2 hM ⟨k, y, rfl, hk, hE, hY, hF, hL4⟩ P hP
 simp only [At_cons, At_nil] at hE hY hF hL4
 obtain ⟨f0, f7, f8, f9, f12, f14, f16, f17, f18, -⟩ := hE
 by_cases hlt : k < l.length
 ·have hlt'' : (k : Int) < (l.length : Int) := by omega
  have gS : S[k]? = some (S.getD k 0) := gdI (by omega)
  have hstep : (S.map (atR l)).take (k + 1) = (S.map (atR l)).take k ++ [atR l (S.getD k 0)] := by
   rw [List.take_add_one, List.getElem?_map, gS]; rfl
  have hb1 := hSb _ (List.mem_of_getElem? gS)
  have hAb := hA hb1
  have hH2 : getH h2 K = .cells ver (A.map (.int .i64)) := by rw [hF K (by omega), hH]
  generalize hb : S.getD k 0 = b at *
  obtain ⟨b, rfl⟩ := Int.eq_ofNat_of_zero_le hb1.1
  rw [Int.toNat_natCast] at hAb
  have b3 : b < l.length := by omega
  have htl : ((S.map (atR l)).take k).length = k := by rw [List.length_take, List.length_map]; omega
  simp (disch := omega) only [go_sem, ↓reduceIte, f0, f7, f14, f16, f17, f18, hlt'', gS, b3, hAb, hH2]
  refine gp_append1 (by first | with_reducible rfl | (simp only [length_setH, List.length_append, List.length_replicate]; done) | (simp only [length_setH, List.length_append, List.length_replicate]; omega)) hY hL4 (by omega) fun y' h3 hY' hF' hL' _ _ => ?_
  simp (disch := omega) only [go_sem, ↓reduceIte, f18]
  refine hP (l.length - (k + 1)) _ (by omega) ⟨k + 1, y', rfl, by omega, by simp only [go_sem, ↓reduceIte, f0, f7, f8, f9, f12, f14, f16], ?_, fun j hj => (hF' j hj).trans (hF j hj), (show h'.length ≤ h3.length by omega)⟩
  rw [hstep]
  exact hY'
 obtain rfl : k = l.length := by omega
 rw [List.take_of_length_le (by rw [List.length_map]; omega)] at hY
 have hO4 : Own 232 h2 x .i64 (side l (sOf most)) := hO3.other fun j hj => hF j (hkx3 j hj)
 obtain ⟨q, hq, hqp, hql⟩ := seq_permN (map_atR_seq hS)
 obtain ⟨ST, m, W, cSt, cWr, hwL, hnl, hsl2, h45, hdr⟩ : ∃ (ST : List Nat) (m : Nat) (W : AV), ConF T 12 20 [intsS (S.map (atR l))] (.tuple [intsS (nI6 ST), .int .i64 0]) ∧ ConF T 9 21 [intsS (S.map (atR l))] (.tuple [W, .int .i64 0]) ∧
   lenA W = some m ∧ (nI6 ST).length = m ∧ ST.length = m ∧ m ≤ 45 ∧ ST.drop 0 = steps (S.map (atR l)) := by
  refine ⟨steps (S.map (atR l)), inv (S.map (atR l)), wrV (wrL (S.map (atR l)) 0), ?_, ?_, ?_, ?_, steps_len _, ?_, rfl⟩
  ·rw [hq]
   exact conF_Steps q hqp (by omega) (by omega)
  ·rw [hq]
   exact conF_Wrong q hqp (by omega) (by omega)
  ·rw [wrV, lenA_slice, grouped, List.length_map, List.length_range, wrL_len]
  ·rw [nI6_len, steps_len]
  ·exact steps_bd _ (by rw [List.length_map]; omega)
 have cDl : ∀ {S : List Int}, Seq l.length S → Con T 12 22 [ords l, ints S, ints (side l (sOf most))] (.tuple [.int .i64 (delayOf l S (side l (sOf most))), .int .i64 0]) := by
  intro S hS
  have := P5.con_21 l S (side l (sOf most)) hl15 (by rw [hS.len]; omega)
  rw [delayV, refDelay_side _ hc (by omega) hS] at this
  exact this
 simp (disch := omega) only [go_sem, ↓reduceIte, f0, f7, f12, f14, f16, f17, f18, hlt']
 refine gpF_con cSt (by omega) (fz_cons (frz_Own hY) (fz_nil _)) ?_
 simp (disch := omega) only [go_sem, ↓reduceIte, f0, f16, f17]
 refine gpF_con cWr (by omega) (fz_cons (frz_Own hY) (fz_nil _)) ?_
 simp (disch := omega) only [go_sem, ↓reduceIte, f0, f9, f16, f17]
 refine gp_con (cDl hS) (by omega) (fz_slice _ _ _ _ (fz_slice _ _ _ _ (fz_cons (frz_Own hO4) (fz_nil _)))) (or_plain rfl) ?_
 have h45' : ¬ (45 : Int) < (m : Int) := by omega
 have emm : ((m : Int) != (m : Int)) = false := by simp
 refine go_cutE [(0, ords l), (7, .int .i64 l.length), (8, .int .i64 (sOf most)), (9, x), (12, ints (seqOf l)), (16, intsS S), (19, intsS (nI6 ST)), (20, .int .i64 0), (21, W), (22, .int .i64 0), (135, .tuple [.int .i64 (delayOf l S (side l (sOf most))), .int .i64 0])] (by simp only [go_sem, ↓reduceIte, f0, f7, f8, f9, f12, f16]) ?_
 clear f0 f7 f8 f9 f12 f14 f16 f17 f18 hM hP P
 intro e hE
 simp only [At_cons, At_nil] at hE
 obtain ⟨f0, f7, f8, f9, f12, f16, f19, f20, f21, f22, f135, -⟩ := hE
 simp (disch := omega) only [go_sem, ↓reduceIte, f19, f20, f21, f22, f135, hc', hwL, hnl, h45', emm, gt_iff_lt]
 have hwn := side_nonneg (sOf most) hc
 refine m_loop (fun M st => ∃ (i : Nat) (S' : List Int) (z : AV), M = m - i ∧ i ≤ m ∧ At st.env [(0, ords l), (7, .int .i64 l.length), (8, .int .i64 (sOf most)), (9, x), (12, ints (seqOf l)), (16, z), (19, intsS (nI6 ST)), (23, .int .i64 (delayOf l S' (side l (sOf most)))), (25, .int .i64 i)] ∧ LsI st.heap z S' ∧ Own 232 st.heap x .i64 (side l (sOf most)) ∧ Seq l.length S' ∧ ST.drop i = steps (S'.map (atR l))) m (by omega)
  ⟨0, S, intsS S, by omega, by omega, by simp only [go_sem, ↓reduceIte, f0, f7, f8, f9, f12, f16, f19], .inl ⟨false, rfl⟩, hO4, hS, hdr⟩ ?_
 clear f0 f7 f8 f9 f12 f16 f19 f20 f21 f22 f135
 rintro M e h4 hM ⟨i, S', z, rfl, hi, hE, hZ, hX, hS', hdr'⟩ P hP
 simp only [At_cons, At_nil] at hE hZ hX
 obtain ⟨f0, f7, f8, f9, f12, f16, f19, f23, f25, -⟩ := hE
 have hSl' := hS'.len
 by_cases hlt : i < m
 ·have hlt'' : (i : Int) < (m : Int) := by omega
  obtain ⟨k, hd, hk, hdr2⟩ := steps_drop hdr' (by omega)
  obtain ⟨hs1, hs2, hs3⟩ := P5.step_late hwn (by omega) hS' hd
  rw [hSl'] at hs3
  have gk : (nI6 ST)[i]? = some (k : Int) := by rw [nI6, List.getElem?_map, hk]; rfl
  have k0 : ¬ ((k : Int) < 0) := by omega
  have k1 : decide ((k : Int) + 1 ≥ (l.length : Int)) = false := decide_eq_false (by omega)
  simp (disch := omega) only [go_sem, ↓reduceIte, f0, f7, f16, f19, f23, f25, hlt'', gk, hnl, k0, k1]
  have l1 : k < S'.length := by omega
  have l2 : k + 1 < S'.length := by omega
  have l3 : k + 1 ≤ S'.length := by omega
  have l4 : k + 1 + 1 ≤ (S'.set k (S'.getD (k + 1) 0)).length := by rw [List.length_set]; omega
  have g1 : S'[k]? = some (S'.getD k 0) := gdI (by omega)
  have g2 : S'[k + 1]? = some (S'.getD (k + 1) 0) := gdI (by omega)
  have s1 : (S'.map (AV.int .i64)).set k (.int .i64 (S'.getD (k + 1) 0)) = (S'.set k (S'.getD (k + 1) 0)).map (.int .i64) := by rw [List.map_set]
  have s2 : ((S'.set k (S'.getD (k + 1) 0)).map (AV.int .i64)).set (k + 1) (.int .i64 (S'.getD k 0)) = (swp k S').map (.int .i64) := by rw [← swp_set l2]; simp only [List.map_set]
  refine gp_copyS (by omega) (by omega) (hZ.cs 6) fun key ver h5 hH5 hk5 hk6 hF5 hL5 => ?_
  have hkx4 := hX.keyLt
  simp (disch := omega) only [go_sem, ↓reduceIte, f0, f9, hH5, g1, g2, l1, l2, l3, l4, s1, s2]
  have hX5 : Own 232 h5 x .i64 (side l (sOf most)) := hX.other fun j hj => hF5 j (hkx4 j hj)
  have hdl : decide (delayOf l (swp k S') (side l (sOf most)) > delayOf l S' (side l (sOf most))) = false := decide_eq_false (by omega)
  refine gp_con (cDl hs1) (by omega) (fz_slice _ _ _ _ (fz_cons (frz_own (k := .i64) (l := swp k S') (ver := ver) (getH_setH_self ..) (by rw [swp_len])) (fz_cons (frz_Own (hX5.other fun j hj => ?_)) (fz_nil _)))) (or_plain rfl) ?_
  ·have := hkx4 j hj
   simp only [getH_setH]
   rw [if_neg (by omega)]
   try rw [if_neg (by omega)]
  simp (disch := omega) only [go_sem, ↓reduceIte, f23, f25, hc', hdl]
  refine hP (m - (i + 1)) _ (by omega) ⟨i + 1, swp k S', .oslice key ver none 0 S'.length none, rfl, by omega, by simp only [go_sem, ↓reduceIte, f0, f7, f8, f9, f12, f19], ?_, ?_, hs1, ?_⟩
  ·exact .inr ⟨key, ver, by rw [swp_len], by simp only [go_sem, ↓reduceIte]⟩
  ·refine hX5.other fun j hj => ?_
   have := hkx4 j hj
   simp only [getH_setH]
   rw [if_neg (by omega)]
   try rw [if_neg (by omega)]
  ·rw [hdr2, swp_map]
 obtain rfl : m = i := by omega
 rw [← hsl2] at hdr'
 have hend := P5.end_late hS' (steps_end hdr')
 subst hend
 have hlt'' : ¬ (m : Int) < (m : Int) := by omega
 simp (disch := omega) only [go_sem, ↓reduceIte, f0, f8, f12, f16, f19, f23, f25, hlt'', hnl]
 have cSh := P5.con_33 l (sOf most) hl15
 have hde : P5.dayErr l (sOf most) = 0 := (P5.dayErr_zero l _).2 ⟨(P5.chk_zero l).1 hc, by cases most <;> simp [sOf], by omega⟩
 obtain ⟨a, hta, _⟩ := P5.refTight_ok hde
 rw [shortV, refShort, hta, hde] at cSh
 refine gp_con cSh (by omega) (by repeat (first | exact fz_nil _ | refine fz_slice _ _ _ _ ?_ | refine fz_int _ _ _ ?_)) (or_plain rfl) ?_
 have e00 : ((0 : Int) == 0) = true := rfl
 simp (disch := omega) only [go_sem, ↓reduceIte, f12, f16, f23, e00]
 refine gp_con (con_lInts6 (seqOf l) (by omega)) (by omega) (fz_cons hZ.frz (fz_slice _ _ _ _ (fz_nil _))) (or_pb _ _) ?_
 have edd : (delayOf l (seqOf l) (side l (sOf most)) == delayOf l (seqOf l) (side l (sOf most))) = true := by simp
 simp (disch := omega) only [go_sem, ↓reduceIte, f23, edd, csW]
end Go.Ev.YtgehhippjhealaaGreatC
