/- Books turned round: backward, with other numbers and in another order. No condition but those that stand in each. -/
import Derived.Test.YtjcabpldgdafeaaDL4Tnl
set_option linter.unusedSimpArgs false
set_option linter.unusedVariables false
namespace Go.Ev.YtjcabpldgdafeaaC
open Go Go.Proofs
theorem rch_rev {es : List Ed} {a b : Nat} (h : Rch es a b) : Rch (es.map rvE) b a := fun p hp hb => by
 cases hq : p a with
 | true => rfl
 | false =>
  have h1 := h (fun x => !p x) (fun e he hx => by
   cases h2 : p e.2 with
   | false => rfl
   | true =>
    have : p e.1 = true := hp (rvE e) (List.mem_map_of_mem he) h2
    rw [this] at hx; cases hx) (by rw [hq]; rfl)
  rw [hb] at h1; cases h1
theorem rv_rv (es : List Ed) : (es.map rvE).map rvE = es := by rw [List.map_map]; exact List.map_id _
theorem clo_rev {es : List Ed} (h : Clo es) : Clo (es.map rvE) := fun e he f hf => by
 obtain ⟨x, hx, rfl⟩ := List.mem_map.1 he
 obtain ⟨y, hy, rfl⟩ := List.mem_map.1 hf
 obtain ⟨h1, h2, h3, h4⟩ := h y hy x hx
 exact ⟨rch_rev h4, rch_rev h2, rch_rev h3, rch_rev h1⟩
theorem val_rev_le {N : Nat} {es : List Ed} (hk : OkB N es) (hc : Clo es) : sumP (agP N es) es.length ≤ sumP (agP N (es.map rvE)) (es.map rvE).length := by
 obtain ⟨o1, o2, o3, _⟩ := htH_ok hk hc
 obtain ⟨g1, g2, _⟩ := agP_ok (ok_rev hk) (clo_rev hc)
 have hw := weak (ok_rev hk).lt (h := fun x => - htH N es x) (fun x _ => g2 x) g1.nn fun e he => by
  obtain ⟨x, hx, rfl⟩ := List.mem_map.1 he
  have := o2 x hx
  show - htH N es x.1 ≤ - htH N es x.2 + 1
  omega
 have he : hS N (es.map rvE) (fun x => - htH N es x) = hS N es (htH N es) := by
  unfold hS
  congr 1
  funext x
  rw [sur_rev, Int.neg_mul_neg]
 rw [he, o3] at hw
 exact hw
theorem agV_rev {N : Nat} {es : List Ed} (hk : OkB N es) : agV N (es.map rvE) = agV N es := by
 unfold agV
 by_cases hc : cloB es = true
 ·have h1 := cloB_iff.1 hc
  have h2 := clo_rev h1
  have h3 := val_rev_le hk h1
  have h4 := val_rev_le (ok_rev hk) h2
  rw [rv_rv] at h4
  rw [if_pos hc, if_pos (cloB_iff.2 h2)]
  omega
 ·rw [if_neg hc, if_neg fun h => hc (cloB_iff.2 (by have := clo_rev (cloB_iff.1 h); rwa [rv_rv] at this))]
section
variable {N : Nat} {es es' : List Ed} {φ : Nat → Nat}
theorem rch_map (hp : es'.Perm (es.map (mpE φ))) {a b : Nat} (h : Rch es a b) : Rch es' (φ a) (φ b) := fun p hq ha =>
 h (fun x => p (φ x)) (fun e he => hq (mpE φ e) (hp.mem_iff.2 (List.mem_map_of_mem he))) ha
theorem clo_map (hp : es'.Perm (es.map (mpE φ))) (h : Clo es) : Clo es' := fun e he f hf => by
 obtain ⟨x, hx, rfl⟩ := List.mem_map.1 (hp.mem_iff.1 he)
 obtain ⟨y, hy, rfl⟩ := List.mem_map.1 (hp.mem_iff.1 hf)
 obtain ⟨h1, h2, h3, h4⟩ := h x hx y hy
 exact ⟨rch_map hp h1, rch_map hp h2, rch_map hp h3, rch_map hp h4⟩
theorem sumC_ext {f g : Nat → Int} : ∀ {l : List Nat}, (∀ x ∈ l, f x = g x) → sumC l f = sumC l g
 | [], _ => rfl
 | a :: l, h => by
  have h1 := h a List.mem_cons_self
  have h2 := sumC_ext (l := l) fun x hx => h x (List.mem_cons_of_mem _ hx)
  simp only [sumC, h1, h2]
theorem val_map_le (hk : OkB N es) (hφ : Bij N φ) (hp : es'.Perm (es.map (mpE φ))) (hc : Clo es) : sumP (agP N es') es'.length ≤ sumP (agP N es) es.length := by
 obtain ⟨o1, o2, o3, _⟩ := htH_ok (ok_map hk hφ hp) (clo_map hp hc)
 obtain ⟨g1, g2, _⟩ := agP_ok hk hc
 have hw := weak hk.lt (h := fun x => htH N es' (φ x)) (fun x _ => g2 x) g1.nn fun e he => o2 (mpE φ e) (hp.mem_iff.2 (List.mem_map_of_mem he))
 have he : hS N es (fun x => htH N es' (φ x)) = hS N es' (htH N es') := by
  unfold hS
  rw [← hφ.sum fun x => htH N es' x * sur es' x]
  exact sumC_ext fun x hx => by rw [sur_map hk hφ hp (List.mem_range.1 hx)]
 rw [he, o3] at hw
 exact hw
theorem bij_inv (hk : OkB N es) (hφ : Bij N φ) (hp : es'.Perm (es.map (mpE φ))) : ∃ ψ, Bij N ψ ∧ es.Perm (es'.map (mpE ψ)) := by
 have hs : ∀ y, y < N → ∃ x, x < N ∧ φ x = y := fun y hy => by
  have := hφ.perm.mem_iff.2 (List.mem_range.2 hy)
  obtain ⟨x, hx, hxy⟩ := List.mem_map.1 this
  exact ⟨x, List.mem_range.1 hx, hxy⟩
 have hψ : ∃ ψ : Nat → Nat, ∀ y, y < N → ψ y < N ∧ φ (ψ y) = y := by
  refine ⟨fun y => if h : y < N then Classical.choose (hs y h) else 0, fun y hy => ?_⟩
  simp only [hy, dif_pos]
  exact Classical.choose_spec (hs y hy)
 obtain ⟨ψ, hψ⟩ := hψ
 have hi : ∀ x, x < N → ψ (φ x) = x := fun x hx => by
  obtain ⟨h1, h2⟩ := hψ (φ x) (hφ.lt x hx)
  exact hφ.inj _ _ h1 hx h2
 refine ⟨ψ, ⟨fun x hx => (hψ x hx).1, fun x y hx hy h => by rw [← (hψ x hx).2, ← (hψ y hy).2, h]⟩, ?_⟩
 refine List.Perm.trans ?_ (hp.map (mpE ψ)).symm
 rw [List.map_map]
 have : es.map (mpE ψ ∘ mpE φ) = es := by
  refine (List.map_congr_left fun e he => ?_).trans (List.map_id _)
  have := hk.lt e he
  show (ψ (φ e.1), ψ (φ e.2)) = e
  rw [hi _ this.1, hi _ this.2]
 rw [this]
theorem agV_map (hk : OkB N es) (hφ : Bij N φ) (hp : es'.Perm (es.map (mpE φ))) : agV N es' = agV N es := by
 obtain ⟨ψ, hψ, hp2⟩ := bij_inv hk hφ hp
 have hk' := ok_map hk hφ hp
 unfold agV
 by_cases hc : cloB es = true
 ·have h1 := cloB_iff.1 hc
  have h2 := clo_map hp h1
  have h3 := val_map_le hk hφ hp h1
  have h4 := val_map_le hk' hψ hp2 h2
  rw [if_pos hc, if_pos (cloB_iff.2 h2)]
  omega
 ·rw [if_neg hc, if_neg fun h => hc (cloB_iff.2 (clo_map hp2 (cloB_iff.1 h)))]
end
theorem rot_eq {N x m : Nat} (hx : x < N) : (x + m) % N = if x + m % N < N then x + m % N else x + m % N - N := by
 have h1 : m % N < N := Nat.mod_lt _ (by omega)
 rw [← Nat.add_mod_mod]
 split
 ·next h => exact Nat.mod_eq_of_lt h
 ·next h => rw [Nat.mod_eq_sub_mod (by omega), Nat.mod_eq_of_lt (by omega)]
theorem rot_bij (N m : Nat) : Bij N fun x => (x + m) % N where
 lt := fun x hx => Nat.mod_lt _ (by omega)
 inj := fun x y hx hy h => by
  have h1 : m % N < N := Nat.mod_lt _ (by omega)
  simp only [rot_eq hx, rot_eq hy] at h
  split at h <;> split at h <;> omega
def rtE (N : Nat) (es : List Ed) (m f k : Nat) : List Ed := (List.range k).map fun j => mpE (fun v => (v + m) % N) (gE es ((j + f) % es.length))
theorem rtE_succ (N : Nat) (es : List Ed) (m f k : Nat) : rtE N es m f (k + 1) = rtE N es m f k ++ [mpE (fun v => (v + m) % N) (gE es ((k + f) % es.length))] := by unfold rtE; rw [List.range_succ, List.map_append]; rfl
theorem rtE_len (N : Nat) (es : List Ed) (m f k : Nat) : (rtE N es m f k).length = k := by simp [rtE]
theorem rtE_perm (N : Nat) (es : List Ed) (m f : Nat) : (rtE N es m f es.length).Perm (es.map (mpE fun v => (v + m) % N)) := by
 have h1 : rtE N es m f es.length = (((List.range es.length).map fun j => (j + f) % es.length).map (gE es)).map (mpE fun v => (v + m) % N) := by
  unfold rtE; rw [List.map_map, List.map_map]; rfl
 rw [h1]
 have h2 := ((rot_bij es.length f).perm.map (gE es)).map (mpE fun v => (v + m) % N)
 rwa [all_gE] at h2
theorem gE_rev (es : List Ed) (i : Nat) : gE (es.map rvE) i = rvE (gE es i) := by
 unfold gE
 by_cases h : i < es.length
 ·simp [List.getD, h]
 ·simp [List.getD, h, rvE]
theorem back_ck {N : Nat} {es : List Ed} (hk : OkB N es) {t : List Nat} {a : Nat} (hn : t.Nodup) (hl : t.length = es.length) (hm : ∀ x ∈ t, x < es.length) (hc : chE a (t.map (gE es))) : (ckT (bkN N (es.map rvE)) (nI4 t.reverse)).2.2 = 0 := by
 have h1 := (chE_rev _ a hc).1
 have h2 : (t.map (gE es)).reverse.map rvE = t.reverse.map (gE (es.map rvE)) := by
  rw [← List.map_reverse, List.map_map]
  exact List.map_congr_left fun i _ => (gE_rev es i).symm
 rw [h2] at h1
 rw [trail_ck (ok_rev hk) ((List.reverse_perm t).nodup_iff.2 hn) (by rw [List.length_reverse, List.length_map]; exact hl) (fun x hx => by rw [List.length_map]; exact hm x (List.mem_reverse.1 hx)) h1]
end Go.Ev.YtjcabpldgdafeaaC
