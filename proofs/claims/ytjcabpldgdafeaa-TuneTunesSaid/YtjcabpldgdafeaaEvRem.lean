/- Remainders, bits and conversions of small numbers; parts of slices that grow. No condition. -/
import Derived.Test.YtjcabpldgdafeaaEvMore
set_option linter.unusedSimpArgs false
set_option linter.unusedVariables false
namespace Go.Ev
open Go

theorem b_rem (k : IntKind) (a b : Nat) (hb : 0 < b) : binA .rem (.int k (a : Int)) (.int k (b : Int)) = .ret (.int k ((a % b : Nat) : Int)) := by
  simp only [binA, binI, if_true]
  rw [if_neg (by omega)]
  congr 2
theorem b_rem2 (k : IntKind) (a : Nat) : binA .rem (.int k (a : Int)) (.int k 2) = .ret (.int k ((a % 2 : Nat) : Int)) := b_rem k a 2 (by omega)
theorem b_rem4 (k : IntKind) (a : Nat) : binA .rem (.int k (a : Int)) (.int k 4) = .ret (.int k ((a % 4 : Nat) : Int)) := b_rem k a 4 (by omega)
theorem b_rem100 (k : IntKind) (a : Nat) : binA .rem (.int k (a : Int)) (.int k 100) = .ret (.int k ((a % 100 : Nat) : Int)) := b_rem k a 100 (by omega)
theorem b_rem2001 (k : IntKind) (a : Nat) : binA .rem (.int k (a : Int)) (.int k 2001) = .ret (.int k ((a % 2001 : Nat) : Int)) := b_rem k a 2001 (by omega)
theorem b_rem1 (k : IntKind) (a b : Nat) : binA .rem (.int k (a : Int)) (.int k ((b : Int) + 1)) = .ret (.int k ((a % (b + 1) : Nat) : Int)) := b_rem k a (b + 1) (by omega)

theorem b_quo {a b : Int} (ha : 0 ≤ a) (ha2 : a ≤ 9223372036854775807) (hb : 0 < b) : binA .quo (.int .i64 a) (.int .i64 b) = .ret (.int .i64 (a / b)) := by
  simp only [binA, binI, if_true]
  rw [if_neg (by omega), Int.tdiv_eq_ediv_of_nonneg ha]
  have h1 := Int.ediv_nonneg ha (show 0 ≤ b by omega)
  have h2 := Int.ediv_le_self b ha
  rw [wrap64 (by omega) (by omega)]
theorem b_remI {a b : Int} (ha : 0 ≤ a) (hb : 0 < b) : binA .rem (.int .i64 a) (.int .i64 b) = .ret (.int .i64 (a % b)) := by
  simp only [binA, binI, if_true]
  rw [if_neg (by omega), Int.tmod_eq_emod_of_nonneg ha]
theorem ret_bind {α β : Type} (a : α) (f : α → Res β) : (Res.ret a).bind f = f a := rfl
theorem resV_ct (s : St) (t u : Nat) (g : Option Nat) : resV s [.cell t g, .tmp u] = (ldA g s.heap (getE s.env t)).bind fun a => .ret (.tuple [a, getE s.env u]) := by
  simp only [resV, mapR, readResult]
  rw [Res.bind_assoc]
  cases getE s.env t <;> rfl
theorem resV_cc (s : St) (t u : Nat) (g g' : Option Nat) : resV s [.cell t g, .cell u g'] = (ldA g s.heap (getE s.env t)).bind fun a => (ldA g' s.heap (getE s.env u)).bind fun b => .ret (.tuple [a, b]) := by
  simp only [resV, mapR, Res.bind_assoc]
  have e : ∀ t g, readResult s (.cell t g) = ldA g s.heap (getE s.env t) := fun t g => by
    simp only [readResult]
    cases getE s.env t <;> rfl
  rw [e, e]
  rfl
theorem resV_cct (s : St) (t u v : Nat) (g g' : Option Nat) : resV s [.cell t g, .cell u g', .tmp v] = (ldA g s.heap (getE s.env t)).bind fun a => (ldA g' s.heap (getE s.env u)).bind fun b => .ret (.tuple [a, b, getE s.env v]) := by
  simp only [resV, mapR, Res.bind_assoc]
  have e : ∀ t g, readResult s (.cell t g) = ldA g s.heap (getE s.env t) := fun t g => by
    simp only [readResult]
    cases getE s.env t <;> rfl
  rw [e, e]
  rfl

/-- what a part of a slice that grows is worth, wherever the slice stays as it is -/
theorem slA_to_Own {lo : Nat} {h : Heap} {v : AV} {k k1 : IntKind} {l : List Int} (ho : Own lo h v k l) {e : Env} {hi : IX} {n : Nat} (h1 : hi.ev e = .int k1 n) (hn : n ≤ l.length) : ∃ w, slA none e none (some hi) none v = .ret w ∧ ∀ h', (∀ j, keyOf v = some j → getH h' j = getH h j) → cellsOfSlice h' w = some (none, (l.take n).length, (l.take n).map (.int k)) := by
  rcases ho with ⟨rfl, rfl⟩ | ⟨key, ver, hk, rfl, hH⟩
  · obtain rfl : n = 0 := by simpa using hn
    refine ⟨.slice none [] true, ?_, fun h' _ => rfl⟩
    rw [slA_to, h1]
    rfl
  · refine ⟨_, slA_to_own h1 hn, fun h' hf => ?_⟩
    rw [cs_own (by rw [hf key rfl, hH]) (by omega), List.drop_zero, List.length_take, Nat.min_eq_left hn]
theorem slA_from_Own {lo : Nat} {h : Heap} {v : AV} {k k1 : IntKind} {l : List Int} (ho : Own lo h v k l) {e : Env} {lx : IX} {n : Nat} (h1 : lx.ev e = .int k1 n) (hn : n ≤ l.length) : ∃ w, slA none e (some lx) none none v = .ret w ∧ ∀ h', (∀ j, keyOf v = some j → getH h' j = getH h j) → cellsOfSlice h' w = some (none, (l.drop n).length, (l.drop n).map (.int k)) := by
  rcases ho with ⟨rfl, rfl⟩ | ⟨key, ver, hk, rfl, hH⟩
  · obtain rfl : n = 0 := by simpa using hn
    refine ⟨.slice none [] true, ?_, fun h' _ => rfl⟩
    rw [slA_from, h1]
    rfl
  · refine ⟨_, slA_from_own h1 hn, fun h' hf => ?_⟩
    rw [cs_own (by rw [hf key rfl, hH]) (by omega), List.length_drop, List.take_of_length_le (by simp)]
theorem gv_slTo {call : Caller} {base : Nat} {Q : EX × St → Prop} {d : Option Nat} {L : List IOper} {ks : List Kont} {e : Env} {h : Heap} {lo : Nat} {v : AV} {k k1 : IntKind} {l : List Int} {hi : IX} {n : Nat} (ho : Own lo h v k l) (h1 : hi.ev e = .int k1 n) (hn : n ≤ l.length)
    (H : ∀ w, (∀ h', (∀ j, keyOf v = some j → getH h' j = getH h j) → cellsOfSlice h' w = some (none, (l.take n).length, (l.take n).map (.int k))) → GO call base Q L ks ⟨setDst e d w, h⟩) : GV call base Q d L ks e h (slA none e none (some hi) none v) := by
  obtain ⟨w, e1, c1⟩ := slA_to_Own ho h1 hn
  rw [e1, gv_ret]
  exact H w c1
theorem gv_slFrom {call : Caller} {base : Nat} {Q : EX × St → Prop} {d : Option Nat} {L : List IOper} {ks : List Kont} {e : Env} {h : Heap} {lo : Nat} {v : AV} {k k1 : IntKind} {l : List Int} {lx : IX} {n : Nat} (ho : Own lo h v k l) (h1 : lx.ev e = .int k1 n) (hn : n ≤ l.length)
    (H : ∀ w, (∀ h', (∀ j, keyOf v = some j → getH h' j = getH h j) → cellsOfSlice h' w = some (none, (l.drop n).length, (l.drop n).map (.int k))) → GO call base Q L ks ⟨setDst e d w, h⟩) : GV call base Q d L ks e h (slA none e (some lx) none none v) := by
  obtain ⟨w, e1, c1⟩ := slA_from_Own ho h1 hn
  rw [e1, gv_ret]
  exact H w c1
/-- to go on with some slots alone -/
theorem go_cut {call : Caller} {base : Nat} {Q : EX × St → Prop} {L : List IOper} {ks : List Kont} {e : Env} {h : Heap} (facts : List (Nat × AV)) (h0 : At e facts) (hq : ∀ e h, At e facts → GO call base Q L ks ⟨e, h⟩) : GO call base Q L ks ⟨e, h⟩ := hq e h h0
theorem go_cutE {call : Caller} {base : Nat} {Q : EX × St → Prop} {L : List IOper} {ks : List Kont} {e : Env} {h : Heap} (facts : List (Nat × AV)) (h0 : At e facts) (hq : ∀ e, At e facts → GO call base Q L ks ⟨e, h⟩) : GO call base Q L ks ⟨e, h⟩ := hq e h0
theorem go_cutL {call : Caller} {base : Nat} {Q : EX × St → Prop} {L : List IOper} {ks : List Kont} {e : Env} {h : Heap} (m : Nat) (hm : m ≤ h.length) (facts : List (Nat × AV)) (h0 : At e facts) (hq : ∀ e h, m ≤ h.length → At e facts → GO call base Q L ks ⟨e, h⟩) : GO call base Q L ks ⟨e, h⟩ := hq e h hm h0
theorem own_cs {lo : Nat} {h : Heap} {v : AV} {k : IntKind} {l : List Int} (ho : Own lo h v k l) : cellsOfSlice h v = some (none, l.length, l.map (.int k)) := by
  rcases ho with ⟨rfl, rfl⟩ | ⟨key, ver, _, rfl, hH⟩
  · rfl
  · rw [cs_own hH (by omega), List.drop_zero, List.take_length]
/-- two ways come together: what is still to do stands once -/
theorem go_join {call : Caller} {base : Nat} {Q : EX × St → Prop} {L : List IOper} {ks : List Kont} {goal : Prop} (I : Env → Heap → Prop) (main : (∀ e h, I e h → GO call base Q L ks ⟨e, h⟩) → goal) (key : ∀ e h, I e h → GO call base Q L ks ⟨e, h⟩) : goal := main key
theorem r_join {call : Caller} {base : Nat} {Q : EX × St → Prop} {x : EX} {ks : List Kont} {goal : Prop} (I : Env → Heap → Prop) (main : (∀ e h, I e h → R call base Q x ks ⟨e, h⟩) → goal) (key : ∀ e h, I e h → R call base Q x ks ⟨e, h⟩) : goal := main key
theorem Own.keyLt {lo : Nat} {h : Heap} {v : AV} {k : IntKind} {l : List Int} (ho : Own lo h v k l) : ∀ j, keyOf v = some j → j < h.length := by
  rcases ho with ⟨_, rfl⟩ | ⟨key, ver, hk, rfl, hH⟩
  · intro j hj; simp [keyOf] at hj
  · intro j hj
    obtain rfl : key = j := by simpa [keyOf] using hj
    exact getH_lt hH (by simp)

end Go.Ev
