/- Determinants of tables of whole numbers, by the first column: sums, exchanges, equal rows and columns, rows that stand alone. No condition but those that stand in each. -/
set_option linter.unusedSimpArgs false
set_option linter.unusedVariables false
namespace Go.Ev
abbrev Rw := Nat → Int
def exD (φ : Rw → Int) (g : List Rw → Int) : List Rw → Int
 | [] => 0
 | r :: rs => φ r * g rs - exD φ (fun l => g (r :: l)) rs
def det : List Nat → List Rw → Int
 | [] => fun _ => 1
 | c :: cs => exD (fun r => r c) (det cs)
theorem exD_congr {φ : Rw → Int} : ∀ {rs : List Rw} {g g' : List Rw → Int}, (∀ l, l.length + 1 = rs.length → g l = g' l) → exD φ g rs = exD φ g' rs
 | [], _, _, _ => rfl
 | r :: rs, g, g', h => by
  simp only [exD]
  rw [h rs rfl, exD_congr (rs := rs) (g := fun l => g (r :: l)) (g' := fun l => g' (r :: l)) fun l hl => h (r :: l) (by simp [hl])]
theorem exD_phi {φ ψ : Rw → Int} : ∀ {rs : List Rw} {g : List Rw → Int}, (∀ r ∈ rs, φ r = ψ r) → exD φ g rs = exD ψ g rs
 | [], _, _ => rfl
 | r :: rs, g, h => by
  simp only [exD]
  rw [h r List.mem_cons_self, exD_phi fun x hx => h x (List.mem_cons_of_mem _ hx)]
theorem exD_zero_phi {φ : Rw → Int} : ∀ {rs : List Rw} {g : List Rw → Int}, (∀ r ∈ rs, φ r = 0) → exD φ g rs = 0
 | [], _, _ => rfl
 | r :: rs, g, h => by
  simp only [exD]
  rw [h r List.mem_cons_self, exD_zero_phi fun x hx => h x (List.mem_cons_of_mem _ hx)]
  simp
theorem exD_zero_g {φ : Rw → Int} : ∀ (rs : List Rw), exD φ (fun _ => 0) rs = 0
 | [] => rfl
 | r :: rs => by simp only [exD]; rw [exD_zero_g rs]; simp
theorem exD_add_phi {φ ψ : Rw → Int} : ∀ {rs : List Rw} {g : List Rw → Int}, exD (fun r => φ r + ψ r) g rs = exD φ g rs + exD ψ g rs
 | [], _ => rfl
 | r :: rs, g => by simp only [exD]; rw [exD_add_phi, Int.add_mul]; omega
theorem exD_smul_phi {φ : Rw → Int} {a : Int} : ∀ {rs : List Rw} {g : List Rw → Int}, exD (fun r => a * φ r) g rs = a * exD φ g rs
 | [], _ => by simp [exD]
 | r :: rs, g => by simp only [exD]; rw [exD_smul_phi, Int.mul_sub, Int.mul_assoc]
theorem exD_sub_g {φ : Rw → Int} : ∀ {rs : List Rw} {g g' : List Rw → Int}, exD φ (fun l => g l - g' l) rs = exD φ g rs - exD φ g' rs
 | [], _, _ => rfl
 | r :: rs, g, g' => by simp only [exD]; rw [exD_sub_g (g := fun l => g (r :: l)), Int.mul_sub]; omega
theorem exD_add_g {φ : Rw → Int} : ∀ {rs : List Rw} {g g' : List Rw → Int}, exD φ (fun l => g l + g' l) rs = exD φ g rs + exD φ g' rs
 | [], _, _ => rfl
 | r :: rs, g, g' => by simp only [exD]; rw [exD_add_g (g := fun l => g (r :: l)), Int.mul_add]; omega
theorem exD_smul_g {φ : Rw → Int} {a : Int} : ∀ {rs : List Rw} {g : List Rw → Int}, exD φ (fun l => a * g l) rs = a * exD φ g rs
 | [], _ => by simp [exD]
 | r :: rs, g => by simp only [exD]; rw [exD_smul_g (g := fun l => g (r :: l)), Int.mul_sub, Int.mul_left_comm]
theorem exD_comm (φ ψ : Rw → Int) : ∀ (rs : List Rw) (g : List Rw → Int), exD φ (exD ψ g) rs + exD ψ (exD φ g) rs = 0
 | [], _ => rfl
 | r :: rs, g => by
  have ih := exD_comm φ ψ rs fun l => g (r :: l)
  have e1 : exD φ (fun l => exD ψ g (r :: l)) rs = ψ r * exD φ g rs - exD φ (exD ψ fun l => g (r :: l)) rs := by
   simp only [exD]
   rw [exD_sub_g (g := fun l => ψ r * g l), exD_smul_g]
  have e2 : exD ψ (fun l => exD φ g (r :: l)) rs = φ r * exD ψ g rs - exD ψ (exD φ fun l => g (r :: l)) rs := by
   simp only [exD]
   rw [exD_sub_g (g := fun l => φ r * g l), exD_smul_g]
  have e3 : exD φ (exD ψ g) (r :: rs) = φ r * exD ψ g rs - exD φ (fun l => exD ψ g (r :: l)) rs := rfl
  have e4 : exD ψ (exD φ g) (r :: rs) = ψ r * exD φ g rs - exD ψ (fun l => exD φ g (r :: l)) rs := rfl
  rw [e3, e4, e1, e2]
  omega
theorem det_swapc (c d : Nat) (cs : List Nat) (rs : List Rw) : det (c :: d :: cs) rs = - det (d :: c :: cs) rs := by
 have := exD_comm (fun r => r c) (fun r => r d) rs (det cs)
 simp only [det]
 omega
theorem det_same_col (j : Nat) : ∀ (cs : List Nat), j ∈ cs → ∀ rs, det (j :: cs) rs = 0
 | d :: cs, h, rs => by
  by_cases hd : j = d
  ·subst hd
   have := det_swapc j j cs rs
   omega
  ·have hj : j ∈ cs := by simpa [hd] using h
   rw [det_swapc]
   have h0 : det (j :: cs) = fun _ => 0 := funext fun rs => det_same_col j cs hj rs
   simp only [det] at h0 ⊢
   rw [h0, exD_zero_g]
   rfl
def sgn : Nat → Int
 | 0 => 1
 | n + 1 => - sgn n
theorem sgn_sq : ∀ n, sgn n * sgn n = 1
 | 0 => rfl
 | n + 1 => by simp only [sgn]; rw [Int.neg_mul_neg]; exact sgn_sq n
theorem det_colfront (c : Nat) (post : List Nat) : ∀ (pre : List Nat) (rs : List Rw), det (pre ++ c :: post) rs = sgn pre.length * det (c :: (pre ++ post)) rs
 | [], rs => by simp [sgn]
 | d :: pre, rs => by
  have h0 : det (pre ++ c :: post) = fun rs => sgn pre.length * det (c :: (pre ++ post)) rs := funext fun rs => det_colfront c post pre rs
  have h1 : det (d :: (pre ++ c :: post)) rs = exD (fun r => r d) (det (pre ++ c :: post)) rs := rfl
  rw [List.cons_append, h1, h0, exD_smul_g]
  have h2 : exD (fun r => r d) (fun rs => det (c :: (pre ++ post)) rs) rs = det (d :: c :: (pre ++ post)) rs := rfl
  rw [h2, det_swapc]
  simp only [List.length_cons, sgn, List.cons_append]
  rw [Int.neg_mul, Int.mul_neg]
theorem exD_rowrel {φ : Rw → Int} {a : Int} {x y z : Rw} (hφ : φ z = φ x + a * φ y) : ∀ (pre post : List Rw) (g : List Rw → Int),
  (∀ pre' post', pre'.length + post'.length + 1 = pre.length + post.length → g (pre' ++ z :: post') = g (pre' ++ x :: post') + a * g (pre' ++ y :: post')) →
  exD φ g (pre ++ z :: post) = exD φ g (pre ++ x :: post) + a * exD φ g (pre ++ y :: post)
 | [], post, g, hg => by
  simp only [List.nil_append, exD]
  have h1 : exD φ (fun l => g (z :: l)) post = exD φ (fun l => g (x :: l) + a * g (y :: l)) post := exD_congr fun l hl => by
   have := hg [] l (by simp; omega)
   simpa using this
  rw [h1, exD_add_g (g := fun l => g (x :: l)), exD_smul_g (g := fun l => g (y :: l)), hφ, Int.add_mul, Int.mul_sub, Int.mul_assoc]
  omega
 | p :: pre, post, g, hg => by
  simp only [List.cons_append, exD]
  have ih := exD_rowrel hφ pre post (fun l => g (p :: l)) fun pre' post' h => by
   have := hg (p :: pre') post' (by simp only [List.length_cons]; omega)
   simpa using this
  rw [ih, hg pre post (by simp only [List.length_cons]; omega), Int.mul_add, Int.mul_sub, Int.mul_left_comm]
  omega
theorem det_lin (a : Int) (x y z : Rw) : ∀ (cs : List Nat) (pre post : List Rw), (∀ c ∈ cs, z c = x c + a * y c) → pre.length + post.length + 1 = cs.length → det cs (pre ++ z :: post) = det cs (pre ++ x :: post) + a * det cs (pre ++ y :: post)
 | [], pre, post, _, hl => by simp at hl
 | c :: cs, pre, post, hz, hl => by
  simp only [det]
  refine exD_rowrel (hz c List.mem_cons_self) pre post (det cs) fun pre' post' h => ?_
  exact det_lin a x y z cs pre' post' (fun c hc => hz c (List.mem_cons_of_mem _ hc)) (by simp only [List.length_cons] at hl; omega)
theorem det_zero_row {x : Rw} {cs : List Nat} {pre post : List Rw} (hx : ∀ c ∈ cs, x c = 0) (hl : pre.length + post.length + 1 = cs.length) : det cs (pre ++ x :: post) = 0 := by
 have := det_lin 1 x x x cs pre post (fun c hc => by rw [hx c hc]; rfl) hl
 omega
theorem det_row_congr {x y : Rw} {cs : List Nat} {pre post : List Rw} (hx : ∀ c ∈ cs, x c = y c) (hl : pre.length + post.length + 1 = cs.length) : det cs (pre ++ x :: post) = det cs (pre ++ y :: post) := by
 have h1 := det_lin 0 y y x cs pre post (fun c hc => by rw [hx c hc]; omega) hl
 omega
theorem exD_rowswap {φ : Rw → Int} {x y : Rw} : ∀ (pre post : List Rw) (g : List Rw → Int),
  (∀ pre' post', pre'.length + post'.length + 1 = pre.length + post.length → g (pre' ++ x :: y :: post') + g (pre' ++ y :: x :: post') = 0) →
  exD φ g (pre ++ x :: y :: post) + exD φ g (pre ++ y :: x :: post) = 0
 | [], post, g, hg => by
  simp only [List.nil_append, exD]
  have h1 : exD φ (fun l => g (x :: y :: l) + g (y :: x :: l)) post = exD φ (fun _ => 0) post := exD_congr fun l hl => by
   have := hg [] l (by simp; omega)
   simpa using this
  rw [exD_add_g (g := fun l => g (x :: y :: l)), exD_zero_g] at h1
  omega
 | p :: pre, post, g, hg => by
  simp only [List.cons_append, exD]
  have ih := exD_rowswap (φ := φ) pre post (fun l => g (p :: l)) fun pre' post' h => by
   have := hg (p :: pre') post' (by simp only [List.length_cons]; omega)
   simpa using this
  have h2 := hg pre post (by simp only [List.length_cons]; omega)
  have h3 : φ p * g (pre ++ x :: y :: post) + φ p * g (pre ++ y :: x :: post) = 0 := by rw [← Int.mul_add, h2, Int.mul_zero]
  omega
theorem det_rowswap (x y : Rw) : ∀ (cs : List Nat) (pre post : List Rw), pre.length + post.length + 2 = cs.length → det cs (pre ++ x :: y :: post) + det cs (pre ++ y :: x :: post) = 0
 | [], pre, post, hl => by simp at hl
 | c :: cs, pre, post, hl => by
  simp only [det]
  refine exD_rowswap pre post (det cs) fun pre' post' h => ?_
  simp only [List.length_cons] at hl
  exact det_rowswap x y cs pre' post' (by omega)
theorem det_same_row (x : Rw) (cs : List Nat) : ∀ (mid pre post : List Rw), pre.length + mid.length + post.length + 2 = cs.length → det cs (pre ++ x :: (mid ++ x :: post)) = 0
 | [], pre, post, hl => by
  have := det_rowswap x x cs pre post (by simp at hl; omega)
  simp only [List.nil_append]
  omega
 | m :: mid, pre, post, hl => by
  simp only [List.length_cons] at hl
  have h1 := det_rowswap x m cs pre (mid ++ x :: post) (by simp; omega)
  have h2 := det_same_row x cs mid (pre ++ [m]) post (by simp; omega)
  simp only [List.append_assoc, List.singleton_append, List.cons_append, List.nil_append] at h2 ⊢
  omega
theorem det_rowmove (x : Rw) (cs : List Nat) : ∀ (pre acc post : List Rw), acc.length + pre.length + post.length + 1 = cs.length → det cs (acc ++ (pre ++ x :: post)) = sgn pre.length * det cs (acc ++ x :: (pre ++ post))
 | [], acc, post, _ => by simp [sgn]
 | p :: pre, acc, post, hl => by
  simp only [List.length_cons] at hl
  have h1 := det_rowswap p x cs acc (pre ++ post) (by simp; omega)
  have h2 := det_rowmove x cs pre (acc ++ [p]) post (by simp; omega)
  simp only [List.append_assoc, List.singleton_append] at h2
  simp only [List.cons_append, List.length_cons, sgn]
  rw [h2, Int.neg_mul, ← Int.mul_neg]
  congr 1
  omega
theorem det_rowfront (x : Rw) (cs : List Nat) (pre post : List Rw) (hl : pre.length + post.length + 1 = cs.length) : det cs (pre ++ x :: post) = sgn pre.length * det cs (x :: (pre ++ post)) :=
 det_rowmove x cs pre [] post (by simp; omega)
theorem det_zero_col {cs : List Nat} {c : Nat} (hc : c ∈ cs) {rs : List Rw} (h : ∀ r ∈ rs, r c = 0) : det cs rs = 0 := by
 obtain ⟨pre, post, rfl⟩ := List.append_of_mem hc
 rw [det_colfront]
 simp only [det]
 rw [exD_zero_phi h, Int.mul_zero]
theorem det_alone {c : Nat} {pc qc : List Nat} {x : Rw} {pr qr : List Rw} (hl : pr.length = pc.length) (hl2 : qr.length = qc.length) (h : ∀ r ∈ pr ++ qr, r c = 0) : det (pc ++ c :: qc) (pr ++ x :: qr) = x c * det (pc ++ qc) (pr ++ qr) := by
 rw [det_colfront, det_rowfront _ _ _ _ (by simp; omega), ← Int.mul_assoc, hl, sgn_sq, Int.one_mul]
 have : det (c :: (pc ++ qc)) (x :: (pr ++ qr)) = x c * det (pc ++ qc) (pr ++ qr) - exD (fun r => r c) (fun l => det (pc ++ qc) (x :: l)) (pr ++ qr) := rfl
 rw [this, exD_zero_phi h]
 omega
end Go.Ev
namespace Go.Ev
abbrev Ed := Nat × Nat
def sp (f : Ed → List Ed → Int) : List Ed → Int
 | [] => 0
 | x :: l => f x l + sp (fun y k => f y (x :: k)) l
theorem sp_congr : ∀ {R : List Ed} {f g : Ed → List Ed → Int}, (∀ x l, (x :: l).Perm R → f x l = g x l) → sp f R = sp g R
 | [], _, _, _ => rfl
 | z :: R, f, g, h => by
  simp only [sp]
  rw [h z R (.refl _), sp_congr (R := R) (f := fun y k => f y (z :: k)) (g := fun y k => g y (z :: k)) fun y k hk => h y (z :: k) ((List.Perm.swap z y k).trans (hk.cons z))]
theorem sp_add : ∀ {R : List Ed} {f g : Ed → List Ed → Int}, sp (fun x l => f x l + g x l) R = sp f R + sp g R
 | [], _, _ => rfl
 | z :: R, f, g => by simp only [sp]; rw [sp_add (R := R) (f := fun y k => f y (z :: k))]; omega
theorem sp_zero : ∀ (R : List Ed), sp (fun _ _ => 0) R = 0
 | [] => rfl
 | z :: R => by simp only [sp]; rw [sp_zero R]; rfl
theorem sp_swap : ∀ (R : List Ed) (h : Ed → Ed → List Ed → Int), sp (fun x l => sp (fun y k => h x y k) l) R = sp (fun y l => sp (fun x k => h x y k) l) R
 | [], _ => rfl
 | z :: R, h => by
  have ih := sp_swap R fun x y k => h x y (z :: k)
  have e1 : sp (fun x l => sp (fun y k => h x y k) (z :: l)) R = sp (fun x l => h x z l) R + sp (fun x l => sp (fun y k => h x y (z :: k)) l) R := by
   rw [← sp_add]; rfl
  have e2 : sp (fun y l => sp (fun x k => h x y k) (z :: l)) R = sp (fun y l => h z y l) R + sp (fun y l => sp (fun x k => h x y (z :: k)) l) R := by
   rw [← sp_add]; rfl
  have e3 : sp (fun x l => sp (fun y k => h x y k) l) (z :: R) = sp (fun y k => h z y k) R + sp (fun x l => sp (fun y k => h x y k) (z :: l)) R := rfl
  have e4 : sp (fun y l => sp (fun x k => h x y k) l) (z :: R) = sp (fun x k => h x z k) R + sp (fun y l => sp (fun x k => h x y k) (z :: l)) R := rfl
  rw [e3, e4, e1, e2, ih]
  omega
theorem sp_perm {R R' : List Ed} (hp : R.Perm R') : ∀ {f : Ed → List Ed → Int}, (∀ x l l', l.Perm l' → f x l = f x l') → sp f R = sp f R' := by
 induction hp with
 | nil => intro f _; rfl
 | cons x h ih =>
  intro f hf
  simp only [sp]
  rw [hf x _ _ h, ih fun y l l' hl => hf y _ _ (hl.cons x)]
 | swap x y l =>
  intro f hf
  simp only [sp]
  have : sp (fun z k => f z (y :: x :: k)) l = sp (fun z k => f z (x :: y :: k)) l := sp_congr fun z k _ => hf z _ _ (List.Perm.swap x y k)
  rw [this]
  omega
 | trans _ _ ih1 ih2 => intro f hf; rw [ih1 hf, ih2 hf]
def trl (r : Nat) : Nat → List Ed → Nat → Int
 | 0, _, a => if a = r then 1 else 0
 | n + 1, R, a => sp (fun g k => if g.1 = a then trl r n k g.2 else 0) R
theorem trl_perm (r : Nat) : ∀ (n : Nat) {R R' : List Ed} (a : Nat), R.Perm R' → trl r n R a = trl r n R' a
 | 0, _, _, _, _ => rfl
 | n + 1, R, R', a, hp => by
  simp only [trl]
  refine sp_perm hp fun x l l' hl => ?_
  split
  ·exact trl_perm r n _ hl
  ·rfl
theorem trl_merge {r u v : Nat} (hv : v ≠ r) : ∀ (n : Nat) (R : List Ed) (a : Nat), R.length = n → trl r (n + 1) ((u, v) :: R) a = sp (fun f k => if f.1 = v then trl r n ((u, f.2) :: k) a else 0) R
 | 0, R, a, hl => by
  obtain rfl : R = [] := List.length_eq_zero_iff.1 hl
  simp only [trl, sp]
  split <;> simp [hv]
 | n + 1, R, a, hl => by
  have h1 : trl r (n + 1 + 1) ((u, v) :: R) a = (if u = a then trl r (n + 1) R v else 0) + sp (fun g k => if g.1 = a then trl r (n + 1) ((u, v) :: k) g.2 else 0) R := rfl
  have h2 : sp (fun g k => if g.1 = a then trl r (n + 1) ((u, v) :: k) g.2 else 0) R = sp (fun g k => sp (fun f k' => if g.1 = a then (if f.1 = v then trl r n ((u, f.2) :: k') g.2 else 0) else 0) k) R := sp_congr fun g k hk => by
   have hkl : k.length = n := by have := hk.length_eq; simp at this; omega
   split
   ·rw [trl_merge hv n k g.2 hkl]
   ·rw [sp_zero]
  have h3 : sp (fun f k => if f.1 = v then trl r (n + 1) ((u, f.2) :: k) a else 0) R = sp (fun f k => (if u = a then (if f.1 = v then trl r n k f.2 else 0) else 0) + sp (fun g k' => if g.1 = a then (if f.1 = v then trl r n ((u, f.2) :: k') g.2 else 0) else 0) k) R := sp_congr fun f k _ => by
   by_cases hf : f.1 = v
   ·simp only [if_pos hf]
    have : trl r (n + 1) ((u, f.2) :: k) a = (if u = a then trl r n k f.2 else 0) + sp (fun g k' => if g.1 = a then trl r n ((u, f.2) :: k') g.2 else 0) k := rfl
    rw [this]
   ·simp only [if_neg hf]
    have : sp (fun g k' => if g.1 = a then (0 : Int) else 0) k = sp (fun _ _ => 0) k := sp_congr fun _ _ _ => by split <;> rfl
    rw [this, sp_zero]
    split <;> rfl
  rw [h1, h2, h3, sp_add, sp_swap R fun g f k' => if g.1 = a then (if f.1 = v then trl r n ((u, f.2) :: k') g.2 else 0) else 0]
  congr 1
  by_cases hu : u = a
  ·simp only [if_pos hu]
   rfl
  ·simp only [if_neg hu]
   rw [sp_zero]
def od (R : List Ed) (v : Nat) : Nat := R.countP fun e => e.1 == v
def idg (R : List Ed) (v : Nat) : Nat := R.countP fun e => e.2 == v
def dl (a c : Nat) : Int := if a = c then 1 else 0
def lap : List Ed → Nat → Rw
 | [], _ => fun _ => 0
 | e :: R, v => fun c => (if e.1 = v then dl v c - dl e.2 c else 0) + lap R v c
def aR (R : List Ed) (v : Nat) : Rw := fun c => lap R v c + if od R v = 0 then dl v c else 0
theorem od_perm {R R' : List Ed} (h : R.Perm R') (v : Nat) : od R v = od R' v := h.countP_eq _
theorem idg_perm {R R' : List Ed} (h : R.Perm R') (v : Nat) : idg R v = idg R' v := h.countP_eq _
theorem lap_perm {R R' : List Ed} (h : R.Perm R') (v c : Nat) : lap R v c = lap R' v c := by
 induction h with
 | nil => rfl
 | cons x _ ih => simp only [lap, ih]
 | swap x y l => simp only [lap]; omega
 | trans _ _ ih1 ih2 => rw [ih1, ih2]
theorem aR_perm {R R' : List Ed} (h : R.Perm R') (v : Nat) : aR R v = aR R' v := by
 funext c
 simp only [aR, lap_perm h, od_perm h]
theorem od_cons (e : Ed) (R : List Ed) (v : Nat) : od (e :: R) v = od R v + if e.1 = v then 1 else 0 := by
 simp only [od, List.countP_cons, beq_iff_eq]
theorem idg_cons (e : Ed) (R : List Ed) (v : Nat) : idg (e :: R) v = idg R v + if e.2 = v then 1 else 0 := by
 simp only [idg, List.countP_cons, beq_iff_eq]
def dV (V : List Nat) (A : Nat → Rw) : Int := det V (V.map A)
def upd (A : Nat → Rw) (v : Nat) (x : Rw) : Nat → Rw := fun y => if y = v then x else A y
theorem map_upd {V : List Nat} {A : Nat → Rw} {v : Nat} {x : Rw} (h : v ∉ V) : V.map (upd A v x) = V.map A := by
 apply List.map_congr_left
 intro y hy
 unfold upd
 exact if_neg fun (e : y = v) => h (by rw [← e]; exact hy)
theorem dV_split {V : List Nat} (hn : V.Nodup) {v : Nat} (hv : v ∈ V) (A : Nat → Rw) : ∃ pre post, V = pre ++ v :: post ∧ ∀ x, dV V (upd A v x) = det V (pre.map A ++ x :: post.map A) := by
 obtain ⟨pre, post, rfl⟩ := List.append_of_mem hv
 rw [List.nodup_append] at hn
 obtain ⟨_, n2, n3⟩ := hn
 refine ⟨pre, post, rfl, fun x => ?_⟩
 unfold dV
 rw [List.map_append, List.map_cons, map_upd (fun h => n3 _ h _ List.mem_cons_self rfl), map_upd (List.nodup_cons.1 n2).1]
 simp [upd]
theorem dV_lin {V : List Nat} (hn : V.Nodup) {v : Nat} (hv : v ∈ V) (A : Nat → Rw) (a : Int) {x y z : Rw} (h : ∀ c ∈ V, z c = x c + a * y c) : dV V (upd A v z) = dV V (upd A v x) + a * dV V (upd A v y) := by
 obtain ⟨pre, post, hV, h1⟩ := dV_split hn hv A
 rw [h1, h1, h1]
 refine det_lin a x y z V _ _ h ?_
 rw [hV]; simp; omega
theorem rows_congr {A B : Nat → Rw} (cs : List Nat) : ∀ (l : List Nat) (pre : List Rw), pre.length + l.length = cs.length → (∀ x ∈ l, ∀ c ∈ cs, A x c = B x c) → det cs (pre ++ l.map A) = det cs (pre ++ l.map B)
 | [], _, _, _ => rfl
 | x :: l, pre, hl, h => by
  simp only [List.length_cons] at hl
  rw [List.map_cons, List.map_cons, det_row_congr (h x List.mem_cons_self) (by simp; omega)]
  have := rows_congr cs l (pre ++ [B x]) (by simp; omega) fun y hy => h y (List.mem_cons_of_mem _ hy)
  simpa using this
theorem dV_congr {V : List Nat} {A B : Nat → Rw} (h : ∀ x ∈ V, ∀ c ∈ V, A x c = B x c) : dV V A = dV V B := rows_congr V V [] (by simp) h
theorem dV_same {V : List Nat} (hn : V.Nodup) {u v : Nat} (hu : u ∈ V) (hv : v ∈ V) (huv : u ≠ v) {A : Nat → Rw} (h : ∀ c ∈ V, A u c = A v c) : dV V A = 0 := by
 have h0 : dV V A = dV V (upd A v (A u)) := dV_congr fun x _ c hc => by
  unfold upd
  split
  ·next he => rw [he, h c hc]
  ·rfl
 rw [h0]
 obtain ⟨pre, post, hV, h1⟩ := dV_split hn hv A
 rw [h1]
 have hmem : u ∈ pre ∨ u ∈ post := by
  rw [hV] at hu
  simpa [huv] using hu
 rcases hmem with hm | hm
 ·obtain ⟨p1, p2, rfl⟩ := List.append_of_mem hm
  have := det_same_row (A u) V (p2.map A) (p1.map A) (post.map A) (by rw [hV]; simp; omega)
  simpa using this
 ·obtain ⟨p1, p2, rfl⟩ := List.append_of_mem hm
  have := det_same_row (A u) V (p1.map A) (pre.map A) (p2.map A) (by rw [hV]; simp; omega)
  simpa using this
theorem dV_zero_row {V : List Nat} (hn : V.Nodup) {v : Nat} (hv : v ∈ V) {A : Nat → Rw} (h : ∀ c ∈ V, A v c = 0) : dV V A = 0 := by
 have h0 : dV V A = dV V (upd A v (A v)) := dV_congr fun x _ c _ => by
  unfold upd
  split
  ·next he => rw [he]
  ·rfl
 obtain ⟨pre, post, hV, h1⟩ := dV_split hn hv A
 rw [h0, h1]
 exact det_zero_row h (by rw [hV]; simp; omega)
theorem dV_zero_col {V : List Nat} {v : Nat} (hv : v ∈ V) {A : Nat → Rw} (h : ∀ x ∈ V, A x v = 0) : dV V A = 0 := det_zero_col hv fun r hr => by
 obtain ⟨x, hx, rfl⟩ := List.mem_map.1 hr
 exact h x hx
end Go.Ev
namespace Go.Ev
def fctI : Nat → Int
 | 0 => 1
 | n + 1 => (n + 1 : Nat) * fctI n
def prodV (R : List Ed) : List Nat → Int
 | [] => 1
 | v :: V => fctI (od R v - 1) * prodV R V
def fF (a : Nat) (V : List Nat) (R : List Ed) : Int := fctI (od R a - 1) * prodV R V * dV V (aR R)
theorem prodV_congr {R R' : List Ed} : ∀ {V : List Nat}, (∀ x ∈ V, od R x = od R' x) → prodV R V = prodV R' V
 | [], _ => rfl
 | v :: V, h => by simp only [prodV]; rw [h v List.mem_cons_self, prodV_congr fun x hx => h x (List.mem_cons_of_mem _ hx)]
theorem fF_perm {a : Nat} {V : List Nat} {R R' : List Ed} (h : R.Perm R') : fF a V R = fF a V R' := by
 unfold fF
 rw [od_perm h, prodV_congr fun x _ => od_perm h x, dV_congr fun x _ c _ => by rw [aR_perm h]]
theorem prodV_at {R R' : List Ed} {v : Nat} (hv : od R v = od R' v + 1) (ho : ∀ x, x ≠ v → od R x = od R' x) : ∀ {V : List Nat}, V.Nodup → v ∈ V → (od R' v = 0 → prodV R V = prodV R' V) ∧ (0 < od R' v → prodV R V = (od R' v : Nat) * prodV R' V)
 | x :: V, hn, hm => by
  rw [List.nodup_cons] at hn
  simp only [prodV]
  by_cases hx : x = v
  ·subst hx
   have h1 : prodV R V = prodV R' V := prodV_congr fun y hy => ho y fun e => hn.1 (e ▸ hy)
   rw [h1, hv]
   refine ⟨fun h0 => by rw [h0], fun h0 => ?_⟩
   obtain ⟨k, hk⟩ : ∃ k, od R' x = k + 1 := ⟨od R' x - 1, by omega⟩
   rw [hk]
   simp only [Nat.add_sub_cancel, fctI]
   rw [Int.mul_assoc]
  ·have hm' : v ∈ V := (List.mem_cons.1 hm).resolve_left fun e => hx e.symm
   have ih := prodV_at hv ho hn.2 hm'
   rw [ho x hx]
   refine ⟨fun h0 => by rw [ih.1 h0], fun h0 => by rw [ih.2 h0, Int.mul_left_comm]⟩
def sumE : List Ed → (Ed → Int) → Int
 | [], _ => 0
 | e :: R, f => f e + sumE R f
theorem sp_const (h : Ed → Int) : ∀ R : List Ed, sp (fun f _ => h f) R = sumE R h
 | [] => rfl
 | z :: R => by simp only [sp, sumE]; rw [sp_const h R]
theorem sumE_congr {R : List Ed} {f g : Ed → Int} (h : ∀ e ∈ R, f e = g e) : sumE R f = sumE R g := by
 induction R with
 | nil => rfl
 | cons a r ih => simp only [sumE, h a List.mem_cons_self, ih fun t ht => h t (List.mem_cons_of_mem _ ht)]
theorem sumE_mul (c : Int) (f : Ed → Int) : ∀ R, sumE R (fun e => c * f e) = c * sumE R f
 | [] => by simp [sumE]
 | e :: R => by simp only [sumE]; rw [sumE_mul c f R, Int.mul_add]
theorem sumE_od (c : Int) (v : Nat) : ∀ R, sumE R (fun e => if e.1 = v then c else 0) = (od R v : Nat) * c
 | [] => by simp [sumE, od]
 | e :: R => by
  simp only [sumE]
  rw [sumE_od c v R, od_cons]
  split
  ·rw [Int.natCast_add, Int.add_mul]; simp; omega
  ·simp
theorem sumE_lin {V : List Nat} (Tm : Rw → Int) (h0 : Tm (fun _ => 0) = 0) (ha : ∀ x y z : Rw, (∀ c ∈ V, z c = x c + y c) → Tm z = Tm x + Tm y) (v : Nat) : ∀ R : List Ed, sumE R (fun e => if e.1 = v then Tm (fun c => dl v c - dl e.2 c) else 0) = Tm (lap R v)
 | [] => by simp only [sumE, lap]; exact h0.symm
 | e :: R => by
  simp only [sumE]
  rw [sumE_lin Tm h0 ha v R]
  by_cases he : e.1 = v
  ·rw [if_pos he]
   exact (ha _ _ _ fun c _ => by simp only [lap, if_pos he]).symm
  ·rw [if_neg he, Int.zero_add]
   have := ha (lap R v) (fun _ => 0) (lap (e :: R) v) fun c _ => by simp only [lap, if_neg he]; omega
   rw [this, h0, Int.add_zero]
theorem dl_self (a : Nat) : dl a a = 1 := if_pos rfl
theorem dl_ne {a b : Nat} (h : a ≠ b) : dl a b = 0 := if_neg h
theorem lap_col {v x : Nat} (hx : x ≠ v) : ∀ R : List Ed, (∀ e ∈ R, e.1 = x → e.2 ≠ v) → lap R x v = 0
 | [], _ => rfl
 | e :: R, h => by
  simp only [lap]
  rw [lap_col hx R fun f hf => h f (List.mem_cons_of_mem _ hf)]
  split
  ·next he => rw [dl_ne hx, dl_ne (h e List.mem_cons_self he)]; rfl
  ·rfl
theorem lap_zero {v : Nat} : ∀ {R : List Ed}, od R v = 0 → ∀ c, lap R v c = 0
 | [], _, _ => rfl
 | e :: R, h, c => by
  rw [od_cons] at h
  by_cases he : e.1 = v
  ·rw [if_pos he] at h; omega
  ·rw [if_neg he] at h
   simp only [lap, if_neg he]
   rw [lap_zero (by omega)]; rfl
theorem od_join {u v w : Nat} {Q k : List Ed} (hp : ((v, w) :: k).Perm Q) (x : Nat) : od ((u, v) :: Q) x = od ((u, w) :: k) x + if v = x then 1 else 0 := by
 rw [od_cons, od_cons, ← od_perm hp x, od_cons]
 simp only
 omega
theorem lap_join {u v w : Nat} {Q k : List Ed} (hp : ((v, w) :: k).Perm Q) (x c : Nat) : lap ((u, w) :: k) x c = lap ((u, v) :: Q) x c - (if v = x then dl v c - dl w c else 0) + (if u = x then dl v c - dl w c else 0) := by
 have h : lap Q x c = (if v = x then dl x c - dl w c else 0) + lap k x c := by rw [← lap_perm hp x c]; rfl
 simp only [lap]
 rw [h]
 by_cases h1 : u = x
 ·subst h1
  by_cases h2 : v = u
  ·subst h2; simp
  ·simp [h2]; omega
 ·by_cases h2 : v = x
  ·subst h2; simp [h1]; omega
  ·simp [h1, h2]
def D2 (V : List Nat) (A : Nat → Rw) (v u : Nat) (x y : Rw) : Int := dV V (upd (upd A v x) u y)
theorem D2_linr {V : List Nat} (hn : V.Nodup) {u v : Nat} (hu : u ∈ V) (A : Nat → Rw) (x : Rw) (a : Int) {y y' z : Rw} (h : ∀ c ∈ V, z c = y c + a * y' c) : D2 V A v u x z = D2 V A v u x y + a * D2 V A v u x y' := dV_lin hn hu (upd A v x) a h
theorem D2_comm {V : List Nat} {u v : Nat} (huv : u ≠ v) (A : Nat → Rw) (x y : Rw) : D2 V A v u x y = dV V (upd (upd A u y) v x) := dV_congr fun z _ c _ => by
 unfold upd
 by_cases h1 : z = u
 ·subst h1; simp [huv]
 ·simp [h1]
theorem D2_linl {V : List Nat} (hn : V.Nodup) {u v : Nat} (hv : v ∈ V) (huv : u ≠ v) (A : Nat → Rw) (y : Rw) (a : Int) {x x' z : Rw} (h : ∀ c ∈ V, z c = x c + a * x' c) : D2 V A v u z y = D2 V A v u x y + a * D2 V A v u x' y := by
 rw [D2_comm huv, D2_comm huv, D2_comm huv]
 exact dV_lin hn hv (upd A u y) a h
theorem D2_same {V : List Nat} (hn : V.Nodup) {u v : Nat} (hu : u ∈ V) (hv : v ∈ V) (huv : u ≠ v) (A : Nat → Rw) (x : Rw) : D2 V A v u x x = 0 := dV_same hn hu hv huv fun c _ => by
 unfold upd
 rw [if_pos rfl, if_neg (fun e => huv e.symm), if_pos rfl]
theorem D2_self (V : List Nat) (u v : Nat) (A : Nat → Rw) : D2 V A v u (A v) (A u) = dV V A := dV_congr fun z _ c _ => by
 unfold upd
 split
 ·next h => rw [h]
 ·split
  ·next h => rw [h]
  ·rfl
theorem D2_join {V : List Nat} (hn : V.Nodup) {u v : Nat} (hu : u ∈ V) (hv : v ∈ V) (huv : u ≠ v) (A : Nat → Rw) (δ : Rw) : D2 V A v u (fun c => A v c - δ c) (fun c => A u c + δ c) = dV V A + (D2 V A v u (A v) δ - D2 V A v u δ (A u)) := by
 have h1 := D2_linr (v := v) hn hu A (fun c => A v c - δ c) 1 (y := A u) (y' := δ) (z := fun c => A u c + δ c) fun c _ => by omega
 have h2 := D2_linl hn hv huv A (A u) (-1) (x := A v) (x' := δ) (z := fun c => A v c - δ c) fun c _ => by omega
 have h3 := D2_linl hn hv huv A δ (-1) (x := A v) (x' := δ) (z := fun c => A v c - δ c) fun c _ => by omega
 have h4 := D2_same hn hu hv huv A δ
 have h5 := D2_self V u v A
 omega
theorem D2_sum {V : List Nat} (hn : V.Nodup) {u v : Nat} (hu : u ∈ V) (hv : v ∈ V) (huv : u ≠ v) (A : Nat → Rw) (Q : List Ed) : sumE Q (fun f => if f.1 = v then D2 V A v u (fun c => A v c - (dl v c - dl f.2 c)) (fun c => A u c + (dl v c - dl f.2 c)) else 0) =
  (od Q v : Nat) * dV V A + (D2 V A v u (A v) (lap Q v) - D2 V A v u (lap Q v) (A u)) := by
 have h1 : sumE Q (fun f => if f.1 = v then D2 V A v u (fun c => A v c - (dl v c - dl f.2 c)) (fun c => A u c + (dl v c - dl f.2 c)) else 0) = sumE Q (fun f => (if f.1 = v then dV V A else 0) + if f.1 = v then (fun δ => D2 V A v u (A v) δ - D2 V A v u δ (A u)) (fun c => dl v c - dl f.2 c) else 0) := sumE_congr fun f _ => by
  split
  ·exact D2_join hn hu hv huv A fun c => dl v c - dl f.2 c
  ·rfl
 have hadd : ∀ (f g : Ed → Int) (R : List Ed), sumE R (fun e => f e + g e) = sumE R f + sumE R g := fun f g R => by
  induction R with
  | nil => rfl
  | cons e r ih => simp only [sumE, ih]; omega
 rw [h1, hadd, sumE_od]
 congr 1
 refine sumE_lin (V := V) (fun δ => D2 V A v u (A v) δ - D2 V A v u δ (A u)) ?_ (fun x y z h => ?_) v Q
 ·have h2 := D2_linr (v := v) hn hu A (A v) 1 (y := fun _ => 0) (y' := fun _ => 0) (z := fun _ => 0) fun c _ => by omega
  have h3 := D2_linl hn hv huv A (A u) 1 (x := fun _ => 0) (x' := fun _ => 0) (z := fun _ => 0) fun c _ => by omega
  omega
 ·have h2 := D2_linr (v := v) hn hu A (A v) 1 (y := x) (y' := y) (z := z) fun c hc => by rw [h c hc]; omega
  have h3 := D2_linl hn hv huv A (A u) 1 (x := x) (x' := y) (z := z) fun c hc => by rw [h c hc]; omega
  omega
theorem dV_self (V : List Nat) (v : Nat) (A : Nat → Rw) : dV V (upd A v (A v)) = dV V A := dV_congr fun z _ c _ => by
 unfold upd
 split
 ·next h => rw [h]
 ·rfl
theorem D1_sum {V : List Nat} (hn : V.Nodup) {v : Nat} (hv : v ∈ V) (A : Nat → Rw) (Q : List Ed) : sumE Q (fun f => if f.1 = v then dV V (upd A v (fun c => A v c - (dl v c - dl f.2 c))) else 0) = (od Q v : Nat) * dV V A - dV V (upd A v (lap Q v)) := by
 have h1 : sumE Q (fun f => if f.1 = v then dV V (upd A v (fun c => A v c - (dl v c - dl f.2 c))) else 0) = sumE Q (fun f => (if f.1 = v then dV V A else 0) + if f.1 = v then (fun δ => - dV V (upd A v δ)) (fun c => dl v c - dl f.2 c) else 0) := sumE_congr fun f _ => by
  split
  ·have h2 := dV_lin hn hv A (-1) (x := A v) (y := fun c => dl v c - dl f.2 c) (z := fun c => A v c - (dl v c - dl f.2 c)) fun c _ => by omega
   have h3 := dV_self V v A
   simp only
   omega
  ·rfl
 have hadd : ∀ (f g : Ed → Int) (R : List Ed), sumE R (fun e => f e + g e) = sumE R f + sumE R g := fun f g R => by
  induction R with
  | nil => rfl
  | cons e r ih => simp only [sumE, ih]; omega
 rw [h1, hadd, sumE_od]
 have := sumE_lin (V := V) (fun δ => - dV V (upd A v δ)) (by
  have h2 := dV_lin hn hv A 1 (x := fun _ => 0) (y := fun _ => 0) (z := fun _ => 0) fun c _ => by omega
  omega) (fun x y z h => by
  have h2 := dV_lin hn hv A 1 (x := x) (y := y) (z := z) fun c hc => by rw [h c hc]; omega
  omega) v Q
 rw [this]
 omega
theorem sp_sum {h : Ed → Int} {f : Ed → List Ed → Int} {Q : List Ed} (hh : ∀ x l, (x :: l).Perm Q → f x l = h x) : sp f Q = sumE Q h := by
 rw [← sp_const]
 exact sp_congr hh
theorem od_pos {R : List Ed} {e : Ed} (he : e ∈ R) : 0 < od R e.1 := List.countP_pos_iff.2 ⟨e, he, by simp⟩
theorem idg_pos {R : List Ed} {e : Ed} (he : e ∈ R) : 0 < idg R e.2 := List.countP_pos_iff.2 ⟨e, he, by simp⟩
set_option maxHeartbeats 1000000 in
theorem fF_merge {a : Nat} {V : List Nat} (hn : V.Nodup) (haV : a ∉ V) {u v : Nat} (hv : v ∈ V) (hu : u ∈ V ∨ u = a) {Q : List Ed} (hbal : od ((u, v) :: Q) v = idg ((u, v) :: Q) v) :
  fF a V ((u, v) :: Q) = sp (fun f k => if f.1 = v then fF a V ((u, f.2) :: k) else 0) Q := by
 have hva : v ≠ a := fun e => haV (e ▸ hv)
 have hov : 0 < od ((u, v) :: Q) v := by rw [hbal]; exact idg_pos (e := (u, v)) List.mem_cons_self
 generalize hR : ((u, v) :: Q : List Ed) = R at *
 -- what each joining makes
 have jo : ∀ w k, ((v, w) :: k).Perm Q → ∀ x, od R x = od ((u, w) :: k) x + if v = x then 1 else 0 := fun w k hp x => by rw [← hR]; exact od_join hp x
 have jl : ∀ w k, ((v, w) :: k).Perm Q → ∀ x c, lap ((u, w) :: k) x c = lap R x c - (if v = x then dl v c - dl w c else 0) + (if u = x then dl v c - dl w c else 0) := fun w k hp x c => by rw [← hR]; exact lap_join hp x c
 have ja : ∀ w k, ((v, w) :: k).Perm Q → fF a V ((u, w) :: k) = fctI (od R a - 1) * prodV ((u, w) :: k) V * dV V (aR ((u, w) :: k)) := fun w k hp => by
  unfold fF
  have := jo w k hp a
  rw [if_neg hva, Nat.add_zero] at this
  rw [this]
 have jp : ∀ w k, ((v, w) :: k).Perm Q → (od ((u, w) :: k) v = 0 → prodV R V = prodV ((u, w) :: k) V) ∧ (0 < od ((u, w) :: k) v → prodV R V = (od ((u, w) :: k) v : Nat) * prodV ((u, w) :: k) V) := fun w k hp =>
  prodV_at (by rw [jo w k hp v, if_pos rfl]) (fun x hx => by rw [jo w k hp x, if_neg (fun e => hx e.symm)]; rfl) hn hv
 by_cases h1 : od R v = 1
 ·by_cases huv : u = v
  ·subst huv
   have hq0 : od Q u = 0 := by rw [← hR, od_cons] at h1; simp at h1; exact h1
   have hl0 : fF a V R = 0 := by
    unfold fF
    rw [dV_zero_row hn hv fun c _ => ?_, Int.mul_zero]
    unfold aR
    rw [if_neg (by omega), ← hR]
    simp only [lap, if_true]
    rw [lap_zero hq0]
    omega
   rw [hl0]
   symm
   rw [sp_sum (h := fun f => if f.1 = u then 0 else 0) fun f k hp => ?_]
   ·rw [sumE_od]; simp
   ·have : od Q f.1 > 0 := by rw [← od_perm hp]; exact od_pos List.mem_cons_self
    by_cases hf : f.1 = u
    ·rw [hf] at this; omega
    ·rw [if_neg hf, if_neg hf]
  ·have hq1 : od Q v = 1 := by rw [← hR, od_cons] at h1; simp [huv] at h1; exact h1
   have hi0 : idg Q v = 0 := by rw [h1, ← hR, idg_cons] at hbal; simp at hbal; omega
   have hno : ∀ e ∈ Q, e.2 ≠ v := fun e he h => by
    have := idg_pos he
    rw [h] at this; omega
   rw [sp_sum (h := fun f => if f.1 = v then fF a V R else 0) fun f k hp => ?_, sumE_od, hq1]
   ·simp
   ·by_cases hf : f.1 = v
    ·rw [if_pos hf, if_pos hf]
     obtain ⟨f1, w⟩ := f
     simp only at hf
     subst hf
     have hwv : w ≠ f1 := hno _ (hp.mem_iff.1 List.mem_cons_self)
     have ho0 : od ((u, w) :: k) f1 = 0 := by have := jo w k hp f1; rw [if_pos rfl] at this; omega
     rw [ja w k hp]
     unfold fF
     rw [(jp w k hp).1 ho0]
     congr 1
     -- the determinants
     have hk0 : od k f1 = 0 := by rw [od_cons] at ho0; omega
     have hlQ : ∀ c, lap Q f1 c = dl f1 c - dl w c := fun c => by
      rw [← lap_perm hp f1 c]
      simp only [lap, if_true]
      rw [lap_zero hk0]; omega
     have hAv : ∀ c, aR R f1 c = dl f1 c - dl w c := fun c => by
      unfold aR
      rw [if_neg (by omega), ← hR]
      simp only [lap]
      rw [if_neg huv, hlQ]
      omega
     have hBv : ∀ c, aR ((u, w) :: k) f1 c = dl f1 c := fun c => by
      unfold aR
      rw [if_pos ho0, lap_zero ho0]; omega
     have hcol : ∀ x, x ≠ f1 → x ≠ u → aR R x f1 = 0 := fun x hx hxu => by
      unfold aR
      have : lap R x f1 = 0 := by
       rw [← hR]
       simp only [lap]
       rw [if_neg (fun e => hxu e.symm), lap_col hx Q fun e he _ => hno e he]; rfl
      rw [this]
      split
      ·rw [dl_ne hx]; rfl
      ·rfl
     have hBx : ∀ x, x ≠ f1 → ∀ c, aR ((u, w) :: k) x c = aR R x c + if u = x then dl f1 c - dl w c else 0 := fun x hx c => by
      have e1 := jo w k hp x
      have e2 := jl w k hp x c
      rw [if_neg (fun e => hx e.symm)] at e1 e2
      unfold aR
      rw [e2, e1]
      simp only [Nat.add_zero]
      omega
     rcases hu with huV | rfl
     ·have hou : od R u ≠ 0 := by rw [← hR, od_cons]; simp
      have hAu : aR R u f1 = -1 := by
       unfold aR
       rw [if_neg hou, ← hR]
       simp only [lap, if_true]
       rw [lap_col huv Q fun e he _ => hno e he, dl_ne huv, dl_self]; rfl
      have e1 : dV V (aR ((u, w) :: k)) = D2 V (aR R) f1 u (dl f1) (fun c => aR R u c + (dl f1 c - dl w c)) := dV_congr fun x _ c _ => by
       unfold upd
       by_cases hx : x = u
       ·subst hx
        rw [if_pos rfl, hBx x huv c, if_pos rfl]
       ·rw [if_neg hx]
        by_cases hx2 : x = f1
        ·subst hx2; rw [if_pos rfl, hBv]
        ·rw [if_neg hx2, hBx x hx2 c, if_neg (fun e => hx e.symm)]; omega
      have e2 : dV V (aR R) = D2 V (aR R) f1 u (fun c => dl f1 c - dl w c) (aR R u) := by
       rw [← D2_self V u f1 (aR R)]
       exact dV_congr fun x _ c _ => by
        unfold upd
        split
        ·rfl
        ·split
         ·rw [hAv]
         ·rfl
      have e3 := D2_linr (v := f1) hn huV (aR R) (fun c => dl f1 c - dl w c) 1 (y := aR R u) (y' := fun c => dl f1 c - dl w c) (z := fun c => aR R u c + (dl f1 c - dl w c)) fun c _ => by omega
      have e4 := D2_same hn huV hv huv (aR R) (fun c => dl f1 c - dl w c)
      have e5 := D2_linl hn hv huv (aR R) (fun c => aR R u c + (dl f1 c - dl w c)) (-1) (x := dl f1) (x' := dl w) (z := fun c => dl f1 c - dl w c) fun c _ => by omega
      have e6 : D2 V (aR R) f1 u (dl w) (fun c => aR R u c + (dl f1 c - dl w c)) = 0 := dV_zero_col hv fun x _ => by
       unfold upd
       by_cases hx : x = u
       ·subst hx
        rw [if_pos rfl, hAu, dl_self, dl_ne hwv]; rfl
       ·rw [if_neg hx]
        by_cases hx2 : x = f1
        ·subst hx2; rw [if_pos rfl, dl_ne hwv]
        ·rw [if_neg hx2]; exact hcol x hx2 hx
      omega
     ·have e1 : dV V (aR ((u, w) :: k)) = dV V (upd (aR R) f1 (dl f1)) := dV_congr fun x hxV c _ => by
       unfold upd
       have hxu : x ≠ u := fun e => haV (e ▸ hxV)
       by_cases hx2 : x = f1
       ·subst hx2; rw [if_pos rfl, hBv]
       ·rw [if_neg hx2, hBx x hx2 c, if_neg (fun e => hxu e.symm)]; omega
      have e2 : dV V (aR R) = dV V (upd (aR R) f1 (fun c => dl f1 c - dl w c)) := dV_congr fun x _ c _ => by
       unfold upd
       split
       ·next h => rw [h, hAv]
       ·rfl
      have e5 := dV_lin hn hv (aR R) (-1) (x := dl f1) (y := dl w) (z := fun c => dl f1 c - dl w c) fun c _ => by omega
      have e6 : dV V (upd (aR R) f1 (dl w)) = 0 := dV_zero_col hv fun x hxV => by
       unfold upd
       have hxu : x ≠ u := fun e => haV (e ▸ hxV)
       by_cases hx2 : x = f1
       ·subst hx2; rw [if_pos rfl, dl_ne hwv]
       ·rw [if_neg hx2]; exact hcol x hx2 hxu
      omega
    ·rw [if_neg hf, if_neg hf]
 ·-- two slurs or more from v
  obtain ⟨d, hd⟩ : ∃ d, od R v = d + 1 := ⟨od R v - 1, by omega⟩
  have hd0 : 0 < d := by omega
  have hof : ∀ w k, ((v, w) :: k).Perm Q → od ((u, w) :: k) v = d := fun w k hp => by have := jo w k hp v; rw [if_pos rfl] at this; omega
  have hz : ∀ w k, ((v, w) :: k).Perm Q → ∀ x c, aR ((u, w) :: k) x c = aR R x c - (if v = x then dl v c - dl w c else 0) + (if u = x then dl v c - dl w c else 0) := fun w k hp x c => by
   have e1 := jo w k hp x
   have e2 := jl w k hp x c
   unfold aR
   rw [e2]
   by_cases hx : v = x
   ·subst hx
    have z1 : ¬ od ((u, w) :: k) v = 0 := by rw [hof w k hp]; omega
    have z2 : ¬ od R v = 0 := by omega
    rw [if_neg z1, if_neg z2]
    omega
   ·rw [if_neg hx] at e1
    rw [e1]
    simp only [Nat.add_zero]
    omega
  have hAQ : u ≠ v → ∀ c, aR R v c = lap Q v c := fun huv c => by
   unfold aR
   rw [if_neg (by omega), ← hR]
   simp only [lap]
   rw [if_neg huv]
   omega
  have hsum : ∃ h : Ed → Int, (∀ f k, (f :: k).Perm Q → f.1 = v → dV V (aR ((u, f.2) :: k)) = h f) ∧ sumE Q (fun f => if f.1 = v then h f else 0) = (d : Nat) * dV V (aR R) := by
   by_cases huv : u = v
   ·subst huv
    refine ⟨fun _ => dV V (aR R), fun f k hp hf => dV_congr fun x _ c _ => ?_, ?_⟩
    ·obtain ⟨f1, w⟩ := f
     simp only at hf
     subst hf
     rw [hz w k hp]; omega
    ·rw [sumE_od]
     congr 1
     rw [← hR, od_cons] at hd
     simp at hd
     omega
   ·have hoq : od Q v = d + 1 := by rw [← hR, od_cons] at hd; simp [huv] at hd; exact hd
    rcases hu with huV | rfl
    ·refine ⟨fun f => D2 V (aR R) v u (fun c => aR R v c - (dl v c - dl f.2 c)) (fun c => aR R u c + (dl v c - dl f.2 c)), fun f k hp hf => dV_congr fun x _ c _ => ?_, ?_⟩
     ·obtain ⟨f1, w⟩ := f
      simp only at hf
      subst hf
      dsimp only
      rw [hz w k hp]
      unfold upd
      by_cases hx : x = u
      ·subst hx
       rw [if_pos rfl, if_pos rfl, if_neg (fun e => huv e.symm)]; omega
      ·rw [if_neg hx]
       by_cases hx2 : x = f1
       ·subst hx2
        rw [if_pos rfl, if_pos rfl, if_neg (fun e => huv e)]; omega
       ·rw [if_neg hx2, if_neg (fun e => hx2 e.symm), if_neg (fun e => hx e.symm)]; omega
     ·rw [D2_sum hn huV hv huv (aR R) Q, hoq]
      have e1 : D2 V (aR R) v u (aR R v) (lap Q v) = 0 := by
       have : D2 V (aR R) v u (aR R v) (lap Q v) = D2 V (aR R) v u (aR R v) (aR R v) := dV_congr fun x _ c _ => by
        unfold upd
        split
        ·exact (hAQ huv c).symm
        ·rfl
       rw [this]
       exact D2_same hn huV hv huv (aR R) _
      have e2 : D2 V (aR R) v u (lap Q v) (aR R u) = dV V (aR R) := by
       rw [← D2_self V u v (aR R)]
       exact dV_congr fun x _ c _ => by
        unfold upd
        split
        ·rfl
        ·split
         ·exact (hAQ huv c).symm
         ·rfl
      rw [e1, e2, Int.natCast_add, Int.add_mul]
      simp
      omega
    ·refine ⟨fun f => dV V (upd (aR R) v (fun c => aR R v c - (dl v c - dl f.2 c))), fun f k hp hf => dV_congr fun x hxV c _ => ?_, ?_⟩
     ·obtain ⟨f1, w⟩ := f
      simp only at hf
      subst hf
      dsimp only
      have hxu : x ≠ u := fun e => haV (e ▸ hxV)
      rw [hz w k hp]
      unfold upd
      by_cases hx2 : x = f1
      ·subst hx2
       rw [if_pos rfl, if_pos rfl, if_neg (fun e => huv e)]; omega
      ·rw [if_neg hx2, if_neg (fun e => hx2 e.symm), if_neg (fun e => hxu e.symm)]; omega
     ·rw [D1_sum hn hv (aR R) Q, hoq]
      have e2 : dV V (upd (aR R) v (lap Q v)) = dV V (aR R) := dV_congr fun x _ c _ => by
       unfold upd
       split
       ·next h => rw [h]; exact (hAQ huv c).symm
       ·rfl
      rw [e2, Int.natCast_add, Int.add_mul]
      simp
  obtain ⟨h, hh1, hh2⟩ := hsum
  have key : (d : Int) * sp (fun f k => if f.1 = v then fF a V ((u, f.2) :: k) else 0) Q = (d : Int) * fF a V R := by
   have hmul : ∀ (c : Int) (f : Ed → List Ed → Int) (Q : List Ed), c * sp f Q = sp (fun x l => c * f x l) Q := fun c f Q => by
    induction Q generalizing f with
    | nil => simp [sp]
    | cons z r ih => simp only [sp]; rw [Int.mul_add, ih]
   rw [hmul, sp_sum (h := fun f => fctI (od R a - 1) * prodV R V * (if f.1 = v then h f else 0)) fun f k hp => ?_, sumE_mul, hh2]
   ·unfold fF
    rw [← Int.mul_assoc, Int.mul_comm (fctI (od R a - 1) * prodV R V) (d : Int), Int.mul_assoc]
   ·by_cases hf : f.1 = v
    ·rw [if_pos hf, if_pos hf, ← hh1 f k hp hf]
     obtain ⟨f1, w⟩ := f
     simp only at hf
     subst hf
     rw [ja w k hp, (jp w k hp).2 (by rw [hof w k hp]; exact hd0), hof w k hp]
     simp only [Int.mul_assoc, Int.mul_left_comm]
    ·rw [if_neg hf, if_neg hf]; simp
  exact (Int.eq_of_mul_eq_mul_left (by omega) key).symm
end Go.Ev
namespace Go.Ev
theorem sumE_const (c : Int) : ∀ R : List Ed, sumE R (fun _ => c) = (R.length : Nat) * c
 | [] => by simp [sumE]
 | e :: R => by simp only [sumE]; rw [sumE_const c R, List.length_cons, Int.natCast_add, Int.add_mul]; simp; omega
theorem trl_loops (a : Nat) : ∀ (n : Nat) (R : List Ed), R.length = n → (∀ e ∈ R, e = (a, a)) → trl a n R a = fctI n
 | 0, _, _, _ => by simp [trl, fctI]
 | n + 1, R, hl, h => by
  simp only [trl]
  rw [sp_sum (h := fun _ => fctI n) fun f k hp => ?_, sumE_const, hl]
  ·rfl
  ·have hf := h f (hp.mem_iff.1 List.mem_cons_self)
   subst hf
   rw [if_pos rfl]
   exact trl_loops a n k (by have := hp.length_eq; simp at this; omega) fun e he => h e (hp.mem_iff.1 (List.mem_cons_of_mem _ he))
theorem dV_one : ∀ {V : List Nat}, V.Nodup → dV V dl = 1
 | [], _ => rfl
 | v :: V, hn => by
  rw [List.nodup_cons] at hn
  have h1 := det_alone (c := v) (pc := []) (qc := V) (x := dl v) (pr := []) (qr := V.map dl) rfl (by simp) fun r hr => by
   simp only [List.nil_append] at hr
   obtain ⟨x, hx, rfl⟩ := List.mem_map.1 hr
   exact dl_ne fun e => hn.1 (e ▸ hx)
  simp only [List.nil_append] at h1
  unfold dV
  rw [List.map_cons, h1, dl_self, Int.one_mul]
  exact dV_one hn.2
theorem od_zero {R : List Ed} {v : Nat} : od R v = 0 ↔ ∀ e ∈ R, e.1 ≠ v := by
 unfold od
 rw [List.countP_eq_zero]
 simp
theorem idg_zero {R : List Ed} {v : Nat} : idg R v = 0 ↔ ∀ e ∈ R, e.2 ≠ v := by
 unfold idg
 rw [List.countP_eq_zero]
 simp
theorem idg_join {u v w : Nat} {Q k : List Ed} (hp : ((v, w) :: k).Perm Q) (x : Nat) : idg ((u, v) :: Q) x = idg ((u, w) :: k) x + if v = x then 1 else 0 := by
 rw [idg_cons, idg_cons, ← idg_perm hp x, idg_cons]
theorem best {a : Nat} {V : List Nat} (hn : V.Nodup) (haV : a ∉ V) : ∀ (n : Nat) (R' : List Ed) (b : Nat), R'.length = n → (∀ x, od ((a, b) :: R') x = idg ((a, b) :: R') x) → (∀ e ∈ (a, b) :: R', e.1 ∈ a :: V ∧ e.2 ∈ a :: V) → trl a n R' b = fF a V ((a, b) :: R') := by
 intro n
 induction n with
 | zero =>
  intro R' b hl hbal hin
  obtain rfl : R' = [] := List.length_eq_zero_iff.1 hl
  have hba : b = a := by
   apply Classical.byContradiction
   intro h
   have := hbal b
   simp [od, idg, h] at this
   exact h this.symm
  subst hba
  have ho : ∀ v ∈ V, od [(b, b)] v = 0 := fun v hv => od_zero.2 fun e he h => haV (by
   simp at he
   subst he
   simp only at h
   rw [h]; exact hv)
  have h1 : prodV [(b, b)] V = 1 := by
   have : ∀ W : List Nat, (∀ v ∈ W, od [(b, b)] v = 0) → prodV [(b, b)] W = 1 := fun W => by
    induction W with
    | nil => intro _; rfl
    | cons w W ih => intro h; simp only [prodV]; rw [h w List.mem_cons_self, ih fun v hv => h v (List.mem_cons_of_mem _ hv)]; rfl
   exact this V ho
  have h2 : dV V (aR [(b, b)]) = 1 := by
   rw [← dV_one hn]
   exact dV_congr fun v hv c _ => by
    unfold aR
    rw [if_pos (ho v hv), lap_zero (ho v hv)]; omega
  unfold fF
  rw [h1, h2]
  simp [trl, od, fctI]
 | succ n ih =>
  intro R' b hl hbal hin
  by_cases hall : ∀ v ∈ V, od ((a, b) :: R') v = 0
  ·-- loops alone
   have hloop : ∀ e ∈ (a, b) :: R', e = (a, a) := fun e he => by
    obtain ⟨h1, h2⟩ := hin e he
    have e1 : e.1 = a := by
     rcases List.mem_cons.1 h1 with h | h
     ·exact h
     ·have := od_zero.1 (hall _ h) e he; exact absurd rfl this
    have e2 : e.2 = a := by
     rcases List.mem_cons.1 h2 with h | h
     ·exact h
     ·have h3 := hbal e.2
      rw [hall _ h] at h3
      exact absurd rfl (idg_zero.1 h3.symm e he)
    exact Prod.ext e1 e2
   have hba : b = a := by have := hloop _ List.mem_cons_self; simpa using this
   subst hba
   rw [trl_loops b (n + 1) R' hl fun e he => hloop e (List.mem_cons_of_mem _ he)]
   have h1 : prodV ((b, b) :: R') V = 1 := by
    have : ∀ W : List Nat, (∀ v ∈ W, od ((b, b) :: R') v = 0) → prodV ((b, b) :: R') W = 1 := fun W => by
     induction W with
     | nil => intro _; rfl
     | cons w W ih => intro h; simp only [prodV]; rw [h w List.mem_cons_self, ih fun v hv => h v (List.mem_cons_of_mem _ hv)]; rfl
    exact this V hall
   have h2 : dV V (aR ((b, b) :: R')) = 1 := by
    rw [← dV_one hn]
    exact dV_congr fun v hv c _ => by
     unfold aR
     rw [if_pos (hall v hv), lap_zero (hall v hv)]; omega
   have h3 : od ((b, b) :: R') b = n + 2 := by
    have : od ((b, b) :: R') b = ((b, b) :: R').length := by
     unfold od
     rw [List.countP_eq_length]
     intro e he
     rw [hloop e he]; simp
    rw [this, List.length_cons, hl]
   unfold fF
   rw [h1, h2, h3]
   simp
  ·-- a slur leads to a note that is not the end
   obtain ⟨v, hv⟩ := Classical.not_forall.1 hall
   obtain ⟨hvV, hov⟩ := Classical.not_imp.1 hv
   have hva : v ≠ a := fun e => haV (e ▸ hvV)
   by_cases hbv : b = v
   ·subst hbv
    have h1 : trl a (n + 1) R' b = sp (fun f k => if f.1 = b then trl a n k f.2 else 0) R' := rfl
    rw [h1, fF_merge hn haV hvV (.inr rfl) (hbal b)]
    refine sp_congr fun f k hp => ?_
    by_cases hf : f.1 = b
    ·rw [if_pos hf, if_pos hf]
     obtain ⟨f1, w⟩ := f
     simp only at hf
     subst hf
     refine ih k w (by have := hp.length_eq; simp at this; omega) (fun x => ?_) fun e he => ?_
     ·have e1 := od_join (u := a) hp x
      have e2 := idg_join (u := a) hp x
      have := hbal x
      omega
     ·rcases List.mem_cons.1 he with rfl | he
      ·exact ⟨List.mem_cons_self, (hin (f1, w) (List.mem_cons_of_mem _ (hp.mem_iff.1 List.mem_cons_self))).2⟩
      ·exact hin e (List.mem_cons_of_mem _ (hp.mem_iff.1 (List.mem_cons_of_mem _ he)))
    ·rw [if_neg hf, if_neg hf]
   ·have hiv : idg ((a, b) :: R') v ≠ 0 := by rw [← hbal]; exact hov
    obtain ⟨e, he, hev⟩ : ∃ e ∈ R', e.2 = v := by
     apply Classical.byContradiction
     intro hno
     refine hiv (idg_zero.2 fun e he h => ?_)
     rcases List.mem_cons.1 he with rfl | he
     ·exact hbv h
     ·exact hno ⟨e, he, h⟩
    obtain ⟨u, v'⟩ := e
    simp only at hev
    subst hev
    have hp0 : R'.Perm ((u, v') :: R'.erase (u, v')) := List.perm_cons_erase he
    generalize R'.erase (u, v') = R2 at hp0
    have hl2 : R2.length = n := by have := hp0.length_eq; simp at this; omega
    have hP : ((a, b) :: R').Perm ((u, v') :: (a, b) :: R2) := (hp0.cons (a, b)).trans (List.Perm.swap _ _ _)
    have huV : u ∈ V ∨ u = a := by
     rcases List.mem_cons.1 (hin (u, v') (List.mem_cons_of_mem _ he)).1 with h | h
     ·exact .inr h
     ·exact .inl h
    rw [trl_perm a (n + 1) b hp0, trl_merge hva n R2 b hl2, fF_perm hP, fF_merge hn haV hvV huV (by rw [← od_perm hP, ← idg_perm hP]; exact hbal v')]
    simp only [sp]
    rw [if_neg (fun e => hva e.symm), Int.zero_add]
    refine sp_congr fun f k hp => ?_
    by_cases hf : f.1 = v'
    ·rw [if_pos hf, if_pos hf]
     obtain ⟨f1, w⟩ := f
     simp only at hf
     subst hf
     have hp' : ((f1, w) :: (a, b) :: k).Perm ((a, b) :: R2) := (List.Perm.swap _ _ _).trans (hp.cons (a, b))
     rw [fF_perm (List.Perm.swap (a, b) (u, w) k)]
     refine ih ((u, w) :: k) b (by have := hp.length_eq; simp at this ⊢; omega) (fun x => ?_) fun e he => ?_
     ·have e1 := od_join (u := u) hp' x
      have e2 := idg_join (u := u) hp' x
      have e3 := hbal x
      rw [od_perm hP, idg_perm hP] at e3
      rw [od_perm (List.Perm.swap (u, w) (a, b) k), idg_perm (List.Perm.swap (u, w) (a, b) k)]
      omega
     ·have hm : ∀ e ∈ k, e ∈ R' := fun e he => hp0.mem_iff.2 (List.mem_cons_of_mem _ (hp.mem_iff.1 (List.mem_cons_of_mem _ he)))
      have hm2 : (f1, w) ∈ R' := hp0.mem_iff.2 (List.mem_cons_of_mem _ (hp.mem_iff.1 List.mem_cons_self))
      rcases List.mem_cons.1 he with rfl | he
      ·exact hin _ List.mem_cons_self
      ·rcases List.mem_cons.1 he with rfl | he
       ·exact ⟨(hin (u, f1) (List.mem_cons_of_mem _ ‹(u, f1) ∈ R'›)).1, (hin _ (List.mem_cons_of_mem _ hm2)).2⟩
       ·exact hin e (List.mem_cons_of_mem _ (hm e he))
    ·rw [if_neg hf, if_neg hf]
end Go.Ev
namespace Go.Ev
def sumC : List Nat → (Nat → Int) → Int
 | [], _ => 0
 | c :: cs, f => f c + sumC cs f
theorem sumC_congr {f g : Nat → Int} : ∀ {cs : List Nat}, (∀ c ∈ cs, f c = g c) → sumC cs f = sumC cs g
 | [], _ => rfl
 | c :: cs, h => by simp only [sumC, h c List.mem_cons_self, sumC_congr fun d hd => h d (List.mem_cons_of_mem _ hd)]
theorem sumC_add (f g : Nat → Int) : ∀ cs, sumC cs (fun c => f c + g c) = sumC cs f + sumC cs g
 | [] => rfl
 | c :: cs => by simp only [sumC]; rw [sumC_add f g cs]; omega
theorem sumC_zero : ∀ cs : List Nat, sumC cs (fun _ => 0) = 0
 | [] => rfl
 | c :: cs => by simp only [sumC]; rw [sumC_zero cs]; rfl
theorem sumC_dl {a : Nat} : ∀ {cs : List Nat}, cs.Nodup → a ∈ cs → sumC cs (dl a) = 1
 | c :: cs, hn, h => by
  rw [List.nodup_cons] at hn
  simp only [sumC]
  by_cases hc : a = c
  ·subst hc
   have : sumC cs (dl a) = sumC cs fun _ => 0 := sumC_congr fun d hd => dl_ne fun e => hn.1 (e ▸ hd)
   rw [this, sumC_zero, dl_self]; rfl
  ·rw [dl_ne hc, sumC_dl hn.2 ((List.mem_cons.1 h).resolve_left hc)]; rfl
theorem det_alone_row {c : Nat} {pc qc : List Nat} {x : Rw} {pr qr : List Rw} (hl : pr.length = pc.length) (hl2 : qr.length = qc.length) (h : ∀ d ∈ pc ++ qc, x d = 0) : det (pc ++ c :: qc) (pr ++ x :: qr) = x c * det (pc ++ qc) (pr ++ qr) := by
 rw [det_colfront, det_rowfront _ _ _ _ (by simp; omega), ← Int.mul_assoc, hl, sgn_sq, Int.one_mul]
 have h1 : det (c :: (pc ++ qc)) (x :: (pr ++ qr)) = x c * det (pc ++ qc) (pr ++ qr) - exD (fun r => r c) (fun l => det (pc ++ qc) (x :: l)) (pr ++ qr) := rfl
 have h2 : exD (fun r => r c) (fun l => det (pc ++ qc) (x :: l)) (pr ++ qr) = exD (fun r => r c) (fun _ => 0) (pr ++ qr) := exD_congr fun l hl' => by
  have := det_zero_row (x := x) (cs := pc ++ qc) (pre := []) (post := l) h (by simp at hl' ⊢; omega)
  simpa using this
 rw [h1, h2, exD_zero_g]
 omega
theorem det_rowsum {c : Nat} {cs : List Nat} {rs : List Rw} (h : ∀ r ∈ rs, sumC (c :: cs) r = 0) : det (c :: cs) rs = 0 := by
 have h1 : ∀ ds : List Nat, (∀ d ∈ ds, d ∈ cs) → exD (fun r => sumC ds r) (det cs) rs = 0 := fun ds => by
  induction ds with
  | nil => intro _; exact exD_zero_phi fun r _ => rfl
  | cons d ds ih =>
   intro hd
   have e1 : exD (fun r => sumC (d :: ds) r) (det cs) rs = exD (fun r => r d) (det cs) rs + exD (fun r => sumC ds r) (det cs) rs := exD_add_phi
   have e2 := det_same_col d cs (hd d List.mem_cons_self) rs
   simp only [det] at e2
   rw [e1, ih fun x hx => hd x (List.mem_cons_of_mem _ hx), e2]; rfl
 have h2 : det (c :: cs) rs = exD (fun r => (-1) * sumC cs r) (det cs) rs := by
  simp only [det]
  refine exD_phi fun r hr => ?_
  have := h r hr
  simp only [sumC] at this
  omega
 rw [h2, exD_smul_phi, h1 cs fun _ hd => hd]
 rfl
theorem dV_rowsum {V : List Nat} {A : Nat → Rw} (hne : V ≠ []) (h : ∀ x ∈ V, sumC V (A x) = 0) : dV V A = 0 := by
 cases V with
 | nil => exact absurd rfl hne
 | cons c cs =>
  refine det_rowsum fun r hr => ?_
  obtain ⟨x, hx, rfl⟩ := List.mem_map.1 hr
  exact h x hx
theorem ite_mem {x d : Nat} {ds : List Nat} (h : x ≠ d) (t : Int) : (if x ∈ d :: ds then t else 0) = if x ∈ ds then t else 0 := by simp [h]
theorem dV_leave {W : List Nat} (hn : W.Nodup) {a : Nat} (ha : a ∈ W) (A : Nat → Rw) : dV W (upd A a (dl a)) = dV (W.erase a) A := by
 obtain ⟨pre, post, rfl⟩ := List.append_of_mem ha
 rw [List.nodup_append] at hn
 obtain ⟨n1, n2, n3⟩ := hn
 have hp : a ∉ pre := fun h => n3 _ h _ List.mem_cons_self rfl
 have hq : a ∉ post := (List.nodup_cons.1 n2).1
 have he : (pre ++ a :: post).erase a = pre ++ post := by
  rw [List.erase_append_right _ hp, List.erase_cons_head]
 rw [he]
 unfold dV
 rw [List.map_append, List.map_cons, map_upd hp, map_upd hq]
 have h1 : upd A a (dl a) a = dl a := if_pos rfl
 rw [h1, det_alone_row (by simp) (by simp) fun d hd => dl_ne fun e => ?_, dl_self, Int.one_mul, List.map_append]
 subst e
 rcases List.mem_append.1 hd with h | h
 ·exact hp h
 ·exact hq h
theorem dV_root {W : List Nat} (hn : W.Nodup) {A : Nat → Rw} (hrow : ∀ x ∈ W, sumC W (A x) = 0) (hcol : ∀ c ∈ W, sumC W (fun v => A v c) = 0) {a r : Nat} (ha : a ∈ W) (hr : r ∈ W) : dV (W.erase a) A = dV (W.erase r) A := by
 by_cases har : a = r
 ·rw [har]
 have hra : r ≠ a := fun e => har e.symm
 rw [← dV_leave hn ha, ← dV_leave hn hr]
 have e1 : dV W (upd A a (dl a)) = D2 W A a r (dl a) (A r) := dV_congr fun x _ c _ => by
  unfold upd
  by_cases hx : x = a
  ·simp [hx, har]
  ·by_cases hx2 : x = r
   ·simp [hx2, hra]
   ·simp [hx, hx2]
 have e2 : dV W (upd A r (dl r)) = D2 W A a r (A a) (dl r) := dV_congr fun x _ c _ => by
  unfold upd
  by_cases hx : x = r
  ·simp [hx]
  ·by_cases hx2 : x = a
   ·simp [hx2, har]
   ·simp [hx, hx2]
 -- row r is minus the sum of all others
 have e3 : D2 W A a r (dl a) (fun c => sumC W fun v => A v c) = 0 := by
  have : D2 W A a r (dl a) (fun c => sumC W fun v => A v c) = D2 W A a r (dl a) (fun _ => 0) := dV_congr fun x _ c hc => by
   unfold upd
   split
   ·exact hcol c hc
   ·rfl
  rw [this]
  have h2 := D2_linr (v := a) hn hr A (dl a) 1 (y := fun _ => 0) (y' := fun _ => 0) (z := fun _ => 0) fun c _ => by omega
  omega
 have e4 : ∀ ds : List Nat, ds.Nodup → (∀ d ∈ ds, d ∈ W) → D2 W A a r (dl a) (fun c => sumC ds fun v => A v c) = (if a ∈ ds then D2 W A a r (dl a) (A a) else 0) + (if r ∈ ds then D2 W A a r (dl a) (A r) else 0) := fun ds => by
  induction ds with
  | nil =>
   intro _ _
   have h2 := D2_linr (v := a) hn hr A (dl a) 1 (y := fun _ => 0) (y' := fun _ => 0) (z := fun _ => 0) fun c _ => by omega
   simp only [sumC]
   simp
   omega
  | cons d ds ih =>
   intro hnd hd
   rw [List.nodup_cons] at hnd
   have ih := ih hnd.2 fun x hx => hd x (List.mem_cons_of_mem _ hx)
   have h1 := D2_linr (v := a) hn hr A (dl a) 1 (y := A d) (y' := fun c => sumC ds fun v => A v c) (z := fun c => sumC (d :: ds) fun v => A v c) fun c _ => by simp only [sumC]; omega
   rw [h1, ih]
   by_cases hda : d = a
   ·subst hda
    rw [if_neg hnd.1, if_pos List.mem_cons_self, ite_mem hra]
    omega
   ·by_cases hdr : d = r
    ·subst hdr
     rw [if_neg (c := d ∈ ds) hnd.1, if_pos (c := d ∈ d :: ds) List.mem_cons_self, ite_mem har]
     omega
    ·have h0 : D2 W A a r (dl a) (A d) = 0 := dV_same hn (hd d List.mem_cons_self) hr hdr fun c _ => by
      unfold upd
      rw [if_neg hdr, if_neg hda, if_pos rfl]
     rw [h0, ite_mem (fun e => hda e.symm), ite_mem (fun e => hdr e.symm)]
     omega
 have e5 := e4 W hn fun _ h => h
 rw [e3, if_pos ha, if_pos hr] at e5
 -- the two rows in the other order
 have e6 : D2 W A a r (dl a) (A a) + D2 W A a r (A a) (dl a) = 0 := by
  have s0 := D2_same hn hr ha hra A (fun c => dl a c + A a c)
  have s1 := D2_linr (v := a) hn hr A (fun c => dl a c + A a c) 1 (y := dl a) (y' := A a) (z := fun c => dl a c + A a c) fun c _ => by omega
  have s2 := D2_linl hn ha hra A (dl a) 1 (x := dl a) (x' := A a) (z := fun c => dl a c + A a c) fun c _ => by omega
  have s3 := D2_linl hn ha hra A (A a) 1 (x := dl a) (x' := A a) (z := fun c => dl a c + A a c) fun c _ => by omega
  have s4 := D2_same hn hr ha hra A (dl a)
  have s5 := D2_same hn hr ha hra A (A a)
  omega
 have e7 : D2 W A a r (A a) (fun c => dl r c - dl a c) = 0 := dV_rowsum (fun h => by rw [h] at ha; cases ha) fun x hx => by
  unfold upd
  by_cases hx1 : x = r
  ·rw [if_pos hx1]
   have h1 := sumC_add (fun c => dl r c - dl a c) (dl a) W
   have h2 : sumC W (fun c => dl r c - dl a c + dl a c) = sumC W (dl r) := sumC_congr fun c _ => by omega
   rw [h2, sumC_dl hn hr, sumC_dl hn ha] at h1
   omega
  ·rw [if_neg hx1]
   by_cases hx2 : x = a
   ·rw [if_pos hx2]; exact hrow a ha
   ·rw [if_neg hx2]; exact hrow x hx
 have e8 := D2_linr (v := a) hn hr A (A a) (-1) (y := dl r) (y' := dl a) (z := fun c => dl r c - dl a c) fun c _ => by omega
 rw [e1, e2]
 omega
theorem dV_filter (p : Nat → Bool) (A : Nat → Rw) : ∀ (V pre : List Nat), (∀ v ∈ V, p v = false → A v v = 1 ∧ ∀ x ∈ pre ++ V, x ≠ v → A x v = 0) → (pre ++ V).Nodup → dV (pre ++ V) A = dV (pre ++ V.filter p) A
 | [], pre, _, _ => rfl
 | v :: V, pre, h, hn => by
  by_cases hp : p v = true
  ·rw [List.filter_cons, if_pos hp]
   have := dV_filter p A V (pre ++ [v]) (fun x hx hpx => by
    have h1 := h x (List.mem_cons_of_mem _ hx) hpx
    simpa using h1) (by simpa using hn)
   simpa using this
  ·have hp' : p v = false := by simpa using hp
   rw [List.filter_cons, if_neg hp]
   obtain ⟨h1, h2⟩ := h v List.mem_cons_self hp'
   have hn' := hn
   rw [List.nodup_append] at hn'
   obtain ⟨n1, n2, n3⟩ := hn'
   have h3 : dV (pre ++ v :: V) A = dV (pre ++ V) A := by
    unfold dV
    rw [List.map_append, List.map_cons, det_alone (by simp) (by simp) fun r hr => ?_, h1, Int.one_mul, List.map_append]
    rw [← List.map_append] at hr
    obtain ⟨x, hx, rfl⟩ := List.mem_map.1 hr
    refine h2 x ?_ fun e => ?_
    ·rcases List.mem_append.1 hx with h | h
     ·exact List.mem_append_left _ h
     ·exact List.mem_append_right _ (List.mem_cons_of_mem _ h)
    ·subst e
     rcases List.mem_append.1 hx with h | h
     ·exact n3 _ h _ List.mem_cons_self rfl
     ·exact (List.nodup_cons.1 n2).1 h
   rw [h3]
   refine dV_filter p A V pre (fun x hx hpx => ?_) ?_
   ·obtain ⟨g1, g2⟩ := h x (List.mem_cons_of_mem _ hx) hpx
    refine ⟨g1, fun y hy => g2 y ?_⟩
    rcases List.mem_append.1 hy with h | h
    ·exact List.mem_append_left _ h
    ·exact List.mem_append_right _ (List.mem_cons_of_mem _ h)
   ·rw [List.nodup_append]
    exact ⟨n1, (List.nodup_cons.1 n2).2, fun x hx y hy => n3 x hx y (List.mem_cons_of_mem _ hy)⟩
end Go.Ev
namespace Go.Ev
structure Zm (l : List Nat) (M : Nat → Rw) : Prop where
 off : ∀ x ∈ l, ∀ y ∈ l, x ≠ y → M x y ≤ 0
 row : ∀ x ∈ l, 0 ≤ sumC l (M x)
 leak : ∀ S : List Nat, S.Sublist l → S ≠ [] → ∃ x ∈ S, 0 < sumC S (M x)
theorem sumC_sub {x : Nat} {f : Nat → Int} {S l : List Nat} (hs : S.Sublist l) (hx : x ∈ S) (hn : l.Nodup) (h : ∀ y ∈ l, y ≠ x → f y ≤ 0) : sumC l f ≤ sumC S f := by
 induction hs with
 | slnil => exact Int.le_refl _
 | @cons S l a hs ih =>
  rw [List.nodup_cons] at hn
  have h1 := ih hx hn.2 fun y hy => h y (List.mem_cons_of_mem _ hy)
  have h2 := h a List.mem_cons_self fun e => hn.1 (e ▸ hs.subset hx)
  simp only [sumC]; omega
 | @cons_cons S l a hs ih =>
  rw [List.nodup_cons] at hn
  simp only [sumC]
  by_cases hxS : x ∈ S
  ·have h1 := ih hxS hn.2 fun y hy => h y (List.mem_cons_of_mem _ hy)
   omega
  ·have hxa : x = a := (List.mem_cons.1 hx).resolve_right hxS
   have hle : sumC l f ≤ sumC S f := by
    clear ih
    have hneg : ∀ y ∈ l, f y ≤ 0 := fun y hy => h y (List.mem_cons_of_mem _ hy) fun e => hn.1 (by rw [← hxa, ← e]; exact hy)
    clear h hx hxS hn
    induction hs with
    | slnil => exact Int.le_refl _
    | cons b _ ih => have := hneg b List.mem_cons_self; have := ih fun y hy => hneg y (List.mem_cons_of_mem _ hy); simp only [sumC]; omega
    | cons_cons b _ ih => have := ih fun y hy => hneg y (List.mem_cons_of_mem _ hy); simp only [sumC]; omega
   omega
theorem Zm.sub {l : List Nat} {M : Nat → Rw} (hz : Zm l M) (hn : l.Nodup) {S : List Nat} (hs : S.Sublist l) : Zm S M where
 off := fun x hx y hy h => hz.off x (hs.subset hx) y (hs.subset hy) h
 row := fun x hx => Int.le_trans (hz.row x (hs.subset hx)) (sumC_sub hs hx hn fun y hy h => hz.off x (hs.subset hx) y hy fun e => h e.symm)
 leak := fun S' hs' hne => hz.leak S' (hs'.trans hs) hne
theorem sumC_smul (a : Int) (f : Nat → Int) : ∀ cs, sumC cs (fun c => a * f c) = a * sumC cs f
 | [] => by simp [sumC]
 | c :: cs => by simp only [sumC]; rw [sumC_smul a f cs, Int.mul_add]
def outR (M : Nat → Rw) (v : Nat) : Nat → Rw := fun x c => M v v * M x c - M x v * M v c
theorem sum_out (M : Nat → Rw) (v x : Nat) (S : List Nat) : sumC S (outR M v x) = M v v * sumC (v :: S) (M x) - M x v * sumC (v :: S) (M v) := by
 have h1 : sumC S (outR M v x) = sumC S (fun c => M v v * M x c) + sumC S (fun c => (- M x v) * M v c) := by
  rw [← sumC_add]
  exact sumC_congr fun c _ => by
   simp only [outR]
   rw [Int.neg_mul]; omega
 rw [h1, sumC_smul, sumC_smul]
 simp only [sumC]
 rw [Int.mul_add, Int.mul_add, Int.neg_mul, Int.mul_comm (M x v) (M v v)]
 omega
theorem Zm.out {v : Nat} {l : List Nat} {M : Nat → Rw} (hz : Zm (v :: l) M) (hn : (v :: l).Nodup) (hv : 0 < M v v) : Zm l (outR M v) := by
 have hne : ∀ x ∈ l, x ≠ v := fun x hx e => (List.nodup_cons.1 hn).1 (e ▸ hx)
 have hxv : ∀ x ∈ l, 0 ≤ - M x v := fun x hx => by have := hz.off x (List.mem_cons_of_mem _ hx) v List.mem_cons_self (hne x hx); omega
 have hs : ∀ S : List Nat, S.Sublist l → ∀ y ∈ v :: S, 0 ≤ sumC (v :: S) (M y) := fun S hS y hy => (hz.sub hn (hS.cons_cons v)).row y hy
 refine ⟨fun x hx y hy hxy => ?_, fun x hx => ?_, fun S hS hne' => ?_⟩
 ·simp only [outR]
  have h1 := hz.off x (List.mem_cons_of_mem _ hx) y (List.mem_cons_of_mem _ hy) hxy
  have h2 := hz.off v List.mem_cons_self y (List.mem_cons_of_mem _ hy) fun e => hne y hy e.symm
  have h3 := Int.mul_nonneg (Int.le_of_lt hv) (show 0 ≤ - M x y by omega)
  have h4 := Int.mul_nonneg (hxv x hx) (show 0 ≤ - M v y by omega)
  rw [Int.mul_neg] at h3
  rw [Int.neg_mul_neg] at h4
  omega
 ·rw [sum_out]
  have h1 := Int.mul_nonneg (Int.le_of_lt hv) (hs l (.refl _) x (List.mem_cons_of_mem _ hx))
  have h2 := Int.mul_nonneg (hxv x hx) (hs l (.refl _) v List.mem_cons_self)
  rw [Int.neg_mul] at h2
  omega
 ·have part : ∀ x ∈ S, 0 ≤ M v v * sumC (v :: S) (M x) ∧ 0 ≤ (- M x v) * sumC (v :: S) (M v) := fun x hx =>
   ⟨Int.mul_nonneg (Int.le_of_lt hv) (hs S hS x (List.mem_cons_of_mem _ hx)), Int.mul_nonneg (hxv x (hS.subset hx)) (hs S hS v List.mem_cons_self)⟩
  obtain ⟨y, hy, hy0⟩ := hz.leak (v :: S) (hS.cons_cons v) (by simp)
  rcases List.mem_cons.1 hy with rfl | hyS
  ·obtain ⟨x, hx, hx0⟩ := hz.leak S (hS.cons y) hne'
   by_cases hx1 : 0 < sumC (y :: S) (M x)
   ·refine ⟨x, hx, ?_⟩
    rw [sum_out]
    have h1 := Int.mul_pos hv hx1
    have h2 := (part x hx).2
    rw [Int.neg_mul] at h2
    omega
   ·refine ⟨x, hx, ?_⟩
    rw [sum_out]
    have h3 : 0 < - M x y := by simp only [sumC] at hx1; omega
    have h4 := Int.mul_pos h3 hy0
    have h1 := (part x hx).1
    rw [Int.neg_mul] at h4
    omega
  ·refine ⟨y, hyS, ?_⟩
   rw [sum_out]
   have h1 := Int.mul_pos hv hy0
   have h2 := (part y hyS).2
   rw [Int.neg_mul] at h2
   omega
theorem det_scale {cs : List Nat} {pre post : List Rw} {x : Rw} (a : Int) (hl : pre.length + post.length + 1 = cs.length) : det cs (pre ++ (fun c => a * x c) :: post) = a * det cs (pre ++ x :: post) := by
 have h1 := det_lin a (fun _ => 0) x (fun c => a * x c) cs pre post (fun c _ => by omega) hl
 have h2 : det cs (pre ++ (fun _ => 0) :: post) = 0 := det_zero_row (fun _ _ => rfl) hl
 omega
def pw (a : Int) : Nat → Int
 | 0 => 1
 | n + 1 => a * pw a n
theorem pw_pos {a : Int} (h : 0 < a) : ∀ n, 0 < pw a n
 | 0 => Int.zero_lt_one
 | n + 1 => Int.mul_pos h (pw_pos h n)
theorem rows_out (M : Nat → Rw) (v : Nat) (cs : List Nat) : ∀ (l : List Nat) (pre : List Rw), pre.length + l.length + 1 = cs.length → det cs (M v :: (pre ++ l.map (outR M v))) = pw (M v v) l.length * det cs (M v :: (pre ++ l.map M))
 | [], pre, _ => by simp [pw]
 | x :: l, pre, hl => by
  simp only [List.length_cons] at hl
  have h1 := det_lin (- M x v) (fun c => M v v * M x c) (M v) (outR M v x) cs (M v :: pre) (l.map (outR M v)) (fun c _ => by simp only [outR]; rw [Int.neg_mul]; omega) (by simp; omega)
  have h2 := det_same_row (M v) cs pre [] (l.map (outR M v)) (by simp; omega)
  have h3 := det_scale (cs := cs) (pre := M v :: pre) (post := l.map (outR M v)) (x := M x) (M v v) (by simp; omega)
  have ih := rows_out M v cs l (pre ++ [M x]) (by simp; omega)
  simp only [List.nil_append, List.append_assoc, List.singleton_append] at h2 ih
  simp only [List.cons_append] at h1 h3
  simp only [List.map_cons, List.length_cons, pw]
  rw [h1, h2, h3, ih, Int.mul_assoc]
  omega
theorem Zm.pos : ∀ {l : List Nat} {M : Nat → Rw}, Zm l M → l.Nodup → 0 < dV l M
 | [], _, _, _ => Int.zero_lt_one
 | v :: l, M, hz, hn => by
  have hv : 0 < M v v := by
   obtain ⟨x, hx, h⟩ := hz.leak [v] (List.Sublist.cons_cons v (List.nil_sublist l)) (by simp)
   obtain rfl : x = v := by simpa using hx
   simpa [sumC] using h
  have ih := (hz.out hn hv).pos (List.nodup_cons.1 hn).2
  have h1 := rows_out M v (v :: l) l [] (by simp)
  have h2 := det_alone (c := v) (pc := []) (qc := l) (x := M v) (pr := []) (qr := l.map (outR M v)) rfl (by simp) fun r hr => by
   simp only [List.nil_append] at hr
   obtain ⟨x, _, rfl⟩ := List.mem_map.1 hr
   simp only [outR]
   rw [Int.mul_comm]; omega
  simp only [List.nil_append] at h1 h2
  rw [h2] at h1
  have h3 : dV (v :: l) M = det (v :: l) (M v :: l.map M) := rfl
  rw [h3]
  apply Classical.byContradiction
  intro hc
  have h4 := Int.mul_nonneg (Int.le_of_lt (pw_pos hv l.length)) (show 0 ≤ - det (v :: l) (M v :: l.map M) by omega)
  rw [Int.mul_neg, ← h1] at h4
  have h5 := Int.mul_pos hv ih
  unfold dV at h5
  omega
theorem T_exD {Tm : Rw → Int} (h0 : Tm (fun _ => 0) = 0) (hl : ∀ (a b : Int) (x y : Rw), Tm (fun c => a * x c + b * y c) = a * Tm x + b * Tm y) : ∀ (rs : List Rw) (g : List Rw → Int), Tm (fun j => exD (fun r => r j) g rs) = exD Tm g rs
 | [], _ => h0
 | r :: rs, g => by
  have h1 := hl (g rs) (-1) r (fun j => exD (fun r => r j) (fun l => g (r :: l)) rs)
  have h2 := T_exD h0 hl rs fun l => g (r :: l)
  have h3 : (fun j => exD (fun r => r j) g (r :: rs)) = fun c => g rs * r c + (-1) * exD (fun r => r c) (fun l => g (r :: l)) rs := by
   funext c
   simp only [exD]
   rw [Int.mul_comm]; omega
  rw [h3, h1, h2]
  simp only [exD]
  rw [Int.mul_comm]; omega
end Go.Ev
namespace Go.Ev
def yR (A : Nat → Rw) (P : List Nat) (r : Rw) : Rw := fun j => det (j :: P) (r :: P.map A)
theorem yR_zero (A : Nat → Rw) {P : List Nat} (r : Rw) {j : Nat} (h : j ∈ P) : yR A P r j = 0 := det_same_col j P h _
theorem yR_lin {A : Nat → Rw} {P : List Nat} {Tm : Rw → Int} (h0 : Tm (fun _ => 0) = 0) (hl : ∀ (a b : Int) (x y : Rw), Tm (fun c => a * x c + b * y c) = a * Tm x + b * Tm y) (hA : ∀ p ∈ P, Tm (A p) = 0) (r : Rw) : Tm (yR A P r) = dV P A * Tm r := by
 have h1 : yR A P r = fun c => dV P A * r c + (-1) * (fun j => exD (fun r' => r' j) (fun l => det P (r :: l)) (P.map A)) c := by
  funext j
  have : yR A P r j = r j * det P (P.map A) - exD (fun r' => r' j) (fun l => det P (r :: l)) (P.map A) := rfl
  rw [this]
  unfold dV
  rw [Int.mul_comm]
  dsimp only
  omega
 have h2 := hl (dV P A) (-1) r (fun j => exD (fun r' => r' j) (fun l => det P (r :: l)) (P.map A))
 rw [h1, h2, T_exD h0 hl, exD_zero_phi fun x hx => ?_]
 ·omega
 ·obtain ⟨p, hp, rfl⟩ := List.mem_map.1 hx
  exact hA p hp
theorem rowT {cs : List Nat} {pre post : List Rw} (hl : pre.length + post.length + 1 = cs.length) : det cs (pre ++ (fun _ => 0) :: post) = 0 ∧ ∀ (a b : Int) (x y : Rw), det cs (pre ++ (fun c => a * x c + b * y c) :: post) = a * det cs (pre ++ x :: post) + b * det cs (pre ++ y :: post) := by
 refine ⟨det_zero_row (fun _ _ => rfl) hl, fun a b x y => ?_⟩
 rw [det_lin b (fun c => a * x c) y _ cs pre post (fun _ _ => rfl) hl, det_scale a hl]
theorem det_two_zero {c : Nat} {P : List Nat} {r1 r2 : Rw} (h1 : ∀ p ∈ P, r1 p = 0) (h2 : ∀ p ∈ P, r2 p = 0) {l : List Rw} (hl : l.length + 1 = P.length) : det (c :: P) (r1 :: r2 :: l) = 0 := by
 have e1 : det (c :: P) (r1 :: r2 :: l) = r1 c * det P (r2 :: l) - exD (fun r => r c) (fun l' => det P (r1 :: l')) (r2 :: l) := rfl
 have e2 : det P (r2 :: l) = 0 := det_zero_row (pre := []) (post := l) h2 (by simp; omega)
 have e3 : exD (fun r => r c) (fun l' => det P (r1 :: l')) (r2 :: l) = exD (fun r => r c) (fun _ => 0) (r2 :: l) := exD_congr fun l' hl' => det_zero_row (pre := []) (post := l') h1 (by simp at hl' ⊢; omega)
 rw [e1, e2, e3, exD_zero_g]
 omega
theorem bar_step {A : Nat → Rw} {P : List Nat} (hD : dV P A ≠ 0) (a : Rw) (c j : Nat) : dV P A * det (j :: (P ++ [c])) (a :: (P ++ [c]).map A) = yR A P a j * yR A P (A c) c - yR A P a c * yR A P (A c) j := by
 -- the last column and the last row come forward
 have hW : det (j :: (P ++ [c])) (a :: (P ++ [c]).map A) = det (j :: c :: P) (a :: A c :: P.map A) := by
  have e1 := det_colfront c [] (j :: P) (a :: (P ++ [c]).map A)
  have e2 := det_swapc j c P (a :: (P ++ [c]).map A)
  have e3 := det_rowmove (A c) (j :: c :: P) (P.map A) [a] [] (by simp; omega)
  simp only [List.append_nil, List.cons_append, List.nil_append, List.length_cons, sgn, List.length_map] at e1 e3
  have e4 : det (j :: c :: P) (a :: (P ++ [c]).map A) = sgn P.length * det (j :: c :: P) (a :: A c :: P.map A) := by
   rw [List.map_append]; exact e3
  rw [e1, Int.neg_mul, ← Int.mul_neg, ← e2, e4, ← Int.mul_assoc, sgn_sq, Int.one_mul]
 rw [hW]
 have hdup : ∀ p ∈ P, ∃ A1 A2, P.map A = A1 ++ A p :: A2 := fun p hp => by
  obtain ⟨p1, p2, rfl⟩ := List.append_of_mem hp
  exact ⟨p1.map A, p2.map A, by simp⟩
 -- both rows are cleared
 have t1 : det (j :: c :: P) (yR A P a :: yR A P (A c) :: P.map A) = dV P A * det (j :: c :: P) (a :: yR A P (A c) :: P.map A) := by
  have hT := rowT (cs := j :: c :: P) (pre := []) (post := yR A P (A c) :: P.map A) (by simp)
  exact yR_lin (Tm := fun x => det (j :: c :: P) (x :: yR A P (A c) :: P.map A)) hT.1 hT.2 (fun p hp => by
   obtain ⟨A1, A2, h⟩ := hdup p hp
   have hlen : P.length = A1.length + A2.length + 1 := by have := congrArg List.length h; simp at this; omega
   have := det_same_row (A p) (j :: c :: P) (yR A P (A c) :: A1) [] A2 (by simp; omega)
   simp only [List.nil_append, List.cons_append] at this
   rw [h]; exact this) a
 have t2 : det (j :: c :: P) (a :: yR A P (A c) :: P.map A) = dV P A * det (j :: c :: P) (a :: A c :: P.map A) := by
  have hT := rowT (cs := j :: c :: P) (pre := [a]) (post := P.map A) (by simp; omega)
  exact yR_lin (Tm := fun x => det (j :: c :: P) (a :: x :: P.map A)) hT.1 hT.2 (fun p hp => by
   obtain ⟨A1, A2, h⟩ := hdup p hp
   have hlen : P.length = A1.length + A2.length + 1 := by have := congrArg List.length h; simp at this; omega
   have := det_same_row (A p) (j :: c :: P) A1 [a] A2 (by simp; omega)
   simp only [List.singleton_append] at this
   rw [h]; exact this) (A c)
 -- and stand alone
 have hz : ∀ r : Rw, ∀ p ∈ P, yR A P r p = 0 := fun r p hp => yR_zero A r hp
 have alone : ∀ r : Rw, (∀ p ∈ P, r p = 0) → det (c :: P) (r :: P.map A) = r c * dV P A := fun r hr => by
  have := det_alone_row (c := c) (pc := []) (qc := P) (x := r) (pr := []) (qr := P.map A) rfl (by simp) hr
  exact this
 have t3 : det (j :: c :: P) (yR A P a :: yR A P (A c) :: P.map A) = (yR A P a j * yR A P (A c) c - yR A P a c * yR A P (A c) j) * dV P A := by
  have e1 : det (j :: c :: P) (yR A P a :: yR A P (A c) :: P.map A) = yR A P a j * det (c :: P) (yR A P (A c) :: P.map A) - (yR A P (A c) j * det (c :: P) (yR A P a :: P.map A) - exD (fun r => r j) (fun l => det (c :: P) (yR A P a :: yR A P (A c) :: l)) (P.map A)) := rfl
  have e2 : exD (fun r => r j) (fun l => det (c :: P) (yR A P a :: yR A P (A c) :: l)) (P.map A) = exD (fun r => r j) (fun _ => 0) (P.map A) := exD_congr fun l hl => det_two_zero (hz a) (hz (A c)) (by simpa using hl)
  rw [e1, e2, exD_zero_g, alone _ (hz (A c)), alone _ (hz a), Int.sub_mul]
  rw [Int.mul_assoc, Int.mul_comm (yR A P a c) (yR A P (A c) j), Int.mul_assoc]
  omega
 rw [t2] at t1
 have h9 : dV P A * (dV P A * det (j :: c :: P) (a :: A c :: P.map A)) = dV P A * (yR A P a j * yR A P (A c) c - yR A P a c * yR A P (A c) j) := by rw [← t1, t3, Int.mul_comm]
 exact Int.eq_of_mul_eq_mul_left hD h9
def absC (cs : List Nat) (r : Rw) : Nat := match cs with
 | [] => 0
 | c :: cs => (r c).natAbs + absC cs r
def prodN (q : Rw → Nat) : List Rw → Nat
 | [] => 1
 | r :: rs => q r * prodN q rs
theorem prodN_le {p q : Rw → Nat} (h : ∀ r, q r ≤ p r) : ∀ rs, prodN q rs ≤ prodN p rs
 | [] => Nat.le_refl _
 | r :: rs => Nat.mul_le_mul (h r) (prodN_le h rs)
theorem exD_abs {φ : Rw → Int} {q : Rw → Nat} : ∀ (rs : List Rw) (K : Nat) (g : List Rw → Int), (∀ l, l.length + 1 = rs.length → (g l).natAbs ≤ K * prodN q l) → (exD φ g rs).natAbs + K * prodN q rs ≤ K * prodN (fun r => (φ r).natAbs + q r) rs
 | [], K, g, _ => by simp [exD, prodN]
 | r :: rs, K, g, hg => by
  have ih := exD_abs (φ := φ) rs (K * q r) (fun l => g (r :: l)) fun l hl => by
   have := hg (r :: l) (by simp; omega)
   simp only [prodN] at this
   rw [Nat.mul_assoc]; exact this
  have h1 := hg rs rfl
  have h2 : (φ r * g rs).natAbs ≤ (φ r).natAbs * (K * prodN q rs) := by
   rw [Int.natAbs_mul]
   exact Nat.mul_le_mul_left _ h1
  have h3 : prodN q rs ≤ prodN (fun r => (φ r).natAbs + q r) rs := prodN_le (fun r => Nat.le_add_left _ _) rs
  have h4 : (φ r).natAbs * (K * prodN q rs) ≤ (φ r).natAbs * (K * prodN (fun r => (φ r).natAbs + q r) rs) := Nat.mul_le_mul_left _ (Nat.mul_le_mul_left _ h3)
  have h5 : (exD φ g (r :: rs)).natAbs ≤ (φ r * g rs).natAbs + (exD φ (fun l => g (r :: l)) rs).natAbs := by
   simp only [exD]
   omega
  simp only [prodN]
  have h6 : K * (((φ r).natAbs + q r) * prodN (fun r => (φ r).natAbs + q r) rs) = (φ r).natAbs * (K * prodN (fun r => (φ r).natAbs + q r) rs) + K * q r * prodN (fun r => (φ r).natAbs + q r) rs := by
   rw [Nat.add_mul, Nat.mul_add, Nat.mul_left_comm, Nat.mul_assoc]
  have h7 : K * (q r * prodN q rs) = K * q r * prodN q rs := by rw [Nat.mul_assoc]
  rw [h6, h7]
  omega
theorem det_abs : ∀ (cs : List Nat) (rs : List Rw), cs.length = rs.length → (det cs rs).natAbs ≤ prodN (absC cs) rs
 | [], rs, h => by
  obtain rfl : rs = [] := List.length_eq_zero_iff.1 h.symm
  simp [det, prodN]
 | c :: cs, rs, h => by
  simp only [List.length_cons] at h
  have h1 := exD_abs (φ := fun r => r c) (q := absC cs) rs 1 (det cs) fun l hl => by
   have := det_abs cs l (by omega)
   omega
  have h2 : (det (c :: cs) rs).natAbs ≤ 1 * prodN (fun r => (r c).natAbs + absC cs r) rs := by
   simp only [det]
   omega
  rw [Nat.one_mul] at h2
  exact h2
end Go.Ev
namespace Go.Ev
def Bal (R : List Ed) : Prop := ∀ x, od R x = idg R x
def Hang (R : List Ed) : Prop := ∀ p : Nat → Bool, (∀ e ∈ R, p e.1 = p e.2) → ∀ e ∈ R, ∀ f ∈ R, p e.1 = p f.1
theorem od_sum {p : Nat → Bool} : ∀ (S : List Nat), S.Nodup → (∀ x, p x = true ↔ x ∈ S) → ∀ R : List Ed, R.countP (fun e => p e.1) = (S.map fun x => od R x).sum ∧ R.countP (fun e => p e.2) = (S.map fun x => idg R x).sum
 | S, hn, hp, [] => by
  have h1 : ∀ l : List Nat, (l.map fun x => od [] x).sum = 0 := fun l => by
   induction l with
   | nil => rfl
   | cons a r ih => simp only [List.map_cons, List.sum_cons, ih]; rfl
  have h2 : ∀ l : List Nat, (l.map fun x => idg [] x).sum = 0 := fun l => by
   induction l with
   | nil => rfl
   | cons a r ih => simp only [List.map_cons, List.sum_cons, ih]; rfl
  exact ⟨(h1 S).symm, (h2 S).symm⟩
 | S, hn, hp, e :: R => by
  obtain ⟨i1, i2⟩ := od_sum S hn hp R
  have one : ∀ (a : Nat) (l : List Nat), l.Nodup → (l.map fun x => if a = x then 1 else 0).sum = if a ∈ l then 1 else 0 := fun a l => by
   induction l with
   | nil => intro _; rfl
   | cons b r ih =>
    intro hnd
    rw [List.nodup_cons] at hnd
    simp only [List.map_cons, List.sum_cons, ih hnd.2]
    by_cases hab : a = b
    ·subst hab; simp [hnd.1]
    ·simp [hab]
  have add : ∀ (f g : Nat → Nat) (l : List Nat), (l.map fun x => f x + g x).sum = (l.map f).sum + (l.map g).sum := fun f g l => by
   induction l with
   | nil => rfl
   | cons b r ih => simp only [List.map_cons, List.sum_cons, ih]; omega
  refine ⟨?_, ?_⟩
  ·have h1 : (S.map fun x => od (e :: R) x) = S.map fun x => od R x + if e.1 = x then 1 else 0 := List.map_congr_left fun x _ => od_cons e R x
   rw [List.countP_cons, i1, h1, add, one _ _ hn]
   congr 1
   by_cases h : e.1 ∈ S
   ·rw [if_pos h, if_pos ((hp _).2 h)]
   ·rw [if_neg h, if_neg fun h' => h ((hp _).1 h')]
  ·have h1 : (S.map fun x => idg (e :: R) x) = S.map fun x => idg R x + if e.2 = x then 1 else 0 := List.map_congr_left fun x _ => idg_cons e R x
   rw [List.countP_cons, i2, h1, add, one _ _ hn]
   congr 1
   by_cases h : e.2 ∈ S
   ·rw [if_pos h, if_pos ((hp _).2 h)]
   ·rw [if_neg h, if_neg fun h' => h ((hp _).1 h')]
theorem count_back {p : Nat → Bool} : ∀ {R : List Ed}, (∀ e ∈ R, p e.1 = true → p e.2 = true) → R.countP (fun e => p e.1) ≤ R.countP (fun e => p e.2) ∧ (R.countP (fun e => p e.1) = R.countP (fun e => p e.2) → ∀ e ∈ R, p e.2 = true → p e.1 = true)
 | [], _ => ⟨Nat.le_refl _, fun _ e he => by cases he⟩
 | e :: R, h => by
  obtain ⟨i1, i2⟩ := count_back fun f hf => h f (List.mem_cons_of_mem _ hf)
  have h0 := h e List.mem_cons_self
  rw [List.countP_cons, List.countP_cons]
  by_cases h1 : p e.1 = true
  ·rw [if_pos h1, if_pos (h0 h1)]
   refine ⟨by omega, fun hc f hf hp2 => ?_⟩
   rcases List.mem_cons.1 hf with rfl | hf
   ·exact h1
   ·exact i2 (by omega) f hf hp2
  ·rw [if_neg h1]
   by_cases h2 : p e.2 = true
   ·rw [if_pos h2]
    exact ⟨by omega, fun hc => by omega⟩
   ·rw [if_neg h2]
    refine ⟨i1, fun hc f hf hp2 => ?_⟩
    rcases List.mem_cons.1 hf with rfl | hf
    ·exact absurd hp2 h2
    ·exact i2 hc f hf hp2
theorem leads_out {R : List Ed} (hb : Bal R) (hh : Hang R) {S : List Nat} (hn : S.Nodup) {x : Nat} (hx : x ∈ S) (hox : od R x ≠ 0) {r : Nat} (hr : r ∉ S) (hor : od R r ≠ 0) : ∃ e ∈ R, e.1 ∈ S ∧ e.2 ∉ S := by
 apply Classical.byContradiction
 intro hno
 have h1 : ∀ e ∈ R, decide (e.1 ∈ S) = true → decide (e.2 ∈ S) = true := fun e he h => by
  apply Classical.byContradiction
  intro h2
  exact hno ⟨e, he, by simpa using h, by simpa using h2⟩
 obtain ⟨c1, c2⟩ := od_sum (p := fun y => decide (y ∈ S)) S hn (fun y => by simp) R
 have hc : R.countP (fun e => decide (e.1 ∈ S)) = R.countP (fun e => decide (e.2 ∈ S)) := by
  rw [c1, c2]
  congr 1
  exact List.map_congr_left fun y _ => hb y
 have h2 := (count_back (p := fun y => decide (y ∈ S)) h1).2 hc
 have h3 : ∀ e ∈ R, (fun y => decide (y ∈ S)) e.1 = (fun y => decide (y ∈ S)) e.2 := fun e he => by
  simp only
  by_cases h : e.1 ∈ S
  ·have := h1 e he (by simpa using h)
   simp [h] at this ⊢
   exact this
  ·have : ¬ e.2 ∈ S := fun h' => by
    have := h2 e he (by simpa using h')
    simp at this
    exact h this
   simp [h, this]
 have get : ∀ y, od R y ≠ 0 → ∃ e ∈ R, e.1 = y := fun y hy => by
  apply Classical.byContradiction
  intro h
  exact hy (od_zero.2 fun e he h' => h ⟨e, he, h'⟩)
 obtain ⟨e, he, rfl⟩ := get x hox
 obtain ⟨f, hf, rfl⟩ := get r hor
 have := hh (fun y => decide (y ∈ S)) h3 e he f hf
 simp [hx, hr] at this
theorem lap_sum (S : List Nat) (hn : S.Nodup) (x : Nat) (hx : x ∈ S) : ∀ R : List Ed, 0 ≤ sumC S (lap R x) ∧ ((∃ e ∈ R, e.1 = x ∧ e.2 ∉ S) → 0 < sumC S (lap R x))
 | [] => ⟨by
   have : sumC S (lap [] x) = 0 := by
    have : sumC S (lap [] x) = sumC S fun _ => 0 := sumC_congr fun _ _ => rfl
    rw [this, sumC_zero]
   omega, fun ⟨e, he, _⟩ => by cases he⟩
 | e :: R => by
  obtain ⟨i1, i2⟩ := lap_sum S hn x hx R
  have dl0 : ∀ a, a ∉ S → sumC S (dl a) = 0 := fun a ha => by
   have : sumC S (dl a) = sumC S fun _ => 0 := sumC_congr fun c hc => dl_ne fun e => ha (e ▸ hc)
   rw [this, sumC_zero]
  by_cases he : e.1 = x
  ·have h1 : sumC S (lap (e :: R) x) + sumC S (dl e.2) = sumC S (dl x) + sumC S (lap R x) := by
    rw [← sumC_add, ← sumC_add]
    exact sumC_congr fun c _ => by simp only [lap, if_pos he]; omega
   rw [sumC_dl hn hx] at h1
   by_cases h2 : e.2 ∈ S
   ·rw [sumC_dl hn h2] at h1
    refine ⟨by omega, fun ⟨f, hf, hf1, hf2⟩ => ?_⟩
    rcases List.mem_cons.1 hf with rfl | hf
    ·exact absurd h2 hf2
    ·have := i2 ⟨f, hf, hf1, hf2⟩; omega
   ·rw [dl0 _ h2] at h1
    exact ⟨by omega, fun _ => by omega⟩
  ·have h1 : sumC S (lap (e :: R) x) = sumC S (lap R x) := sumC_congr fun c _ => by simp only [lap, if_neg he]; omega
   rw [h1]
   refine ⟨i1, fun ⟨f, hf, hf1, hf2⟩ => ?_⟩
   rcases List.mem_cons.1 hf with rfl | hf
   ·exact absurd hf1 he
   ·exact i2 ⟨f, hf, hf1, hf2⟩
theorem lap_off {x y : Nat} (h : x ≠ y) : ∀ R : List Ed, lap R x y ≤ 0
 | [] => Int.le_refl _
 | e :: R => by
  have := lap_off h R
  have h1 : dl x y = 0 := dl_ne h
  have h2 : 0 ≤ dl e.2 y := by unfold dl; split <;> decide
  simp only [lap]
  split <;> omega
theorem zm_lap {R : List Ed} (hb : Bal R) (hh : Hang R) {l : List Nat} (hn : l.Nodup) (hl : ∀ x ∈ l, od R x ≠ 0) {r : Nat} (hr : r ∉ l) (hor : od R r ≠ 0) : Zm l (lap R) where
 off := fun x _ y _ h => lap_off h R
 row := fun x hx => (lap_sum l hn x hx R).1
 leak := fun S hS hne => by
  obtain ⟨x, hx⟩ := List.exists_mem_of_ne_nil S hne
  have hnS : S.Nodup := List.Nodup.sublist hS hn
  obtain ⟨e, he, h1, h2⟩ := leads_out hb hh hnS hx (hl x (hS.subset hx)) (fun h => hr (hS.subset h)) hor
  exact ⟨e.1, h1, (lap_sum S hnS e.1 h1 R).2 ⟨e, he, rfl, h2⟩⟩
theorem absC_add (f g : Rw) : ∀ cs, absC cs (fun c => f c + g c) ≤ absC cs f + absC cs g
 | [] => Nat.le_refl _
 | c :: cs => by
  have := absC_add f g cs
  simp only [absC]
  have := Int.natAbs_add_le (f c) (g c)
  omega
theorem absC_dl (a : Nat) : ∀ {cs : List Nat}, cs.Nodup → absC cs (dl a) ≤ 1 ∧ (a ∉ cs → absC cs (dl a) = 0)
 | [], _ => ⟨by simp [absC], fun _ => rfl⟩
 | c :: cs, hn => by
  rw [List.nodup_cons] at hn
  obtain ⟨i1, i2⟩ := absC_dl a hn.2
  simp only [absC]
  by_cases hc : a = c
  ·subst hc
   rw [i2 hn.1, dl_self]
   exact ⟨by decide, fun h => absurd List.mem_cons_self h⟩
  ·rw [dl_ne hc]
   exact ⟨by simp; exact i1, fun h => by rw [i2 fun h' => h (List.mem_cons_of_mem _ h')]; rfl⟩
theorem absC_lap {cs : List Nat} (hn : cs.Nodup) (x : Nat) : ∀ R : List Ed, absC cs (lap R x) ≤ 2 * od R x
 | [] => by
  have : ∀ cs : List Nat, absC cs (lap [] x) = 0 := fun cs => by
   induction cs with
   | nil => rfl
   | cons c cs ih =>
    show Int.natAbs 0 + absC cs (lap [] x) = 0
    rw [ih]; rfl
  rw [this]; omega
 | e :: R => by
  have ih := absC_lap hn x R
  rw [od_cons]
  by_cases he : e.1 = x
  ·rw [if_pos he]
   have h0 : ∀ cs : List Nat, absC cs (lap (e :: R) x) = absC cs fun c => (dl x c + (- dl e.2 c)) + lap R x c := fun cs => by
    induction cs with
    | nil => rfl
    | cons c cs ih => simp only [absC, ih, lap, if_pos he]; rfl
   have h1 := absC_add (fun c => dl x c + (- dl e.2 c)) (lap R x) cs
   have h2 := absC_add (dl x) (fun c => - dl e.2 c) cs
   have h3 : ∀ cs : List Nat, absC cs (fun c => - dl e.2 c) = absC cs (dl e.2) := fun cs => by
    induction cs with
    | nil => rfl
    | cons c cs ih => simp only [absC, ih, Int.natAbs_neg]
   have h4 := (absC_dl x hn).1
   have h5 := (absC_dl e.2 hn).1
   rw [h3] at h2
   rw [h0]
   omega
  ·rw [if_neg he]
   have h0 : ∀ cs : List Nat, absC cs (lap (e :: R) x) = absC cs (lap R x) := fun cs => by
    induction cs with
    | nil => rfl
    | cons c cs ih => simp only [absC, ih, lap, if_neg he, Int.zero_add]
   rw [h0]
   omega
theorem two_pow {n : Nat} (h : 0 < n) : 2 * n ≤ 2 ^ n := by
 induction n with
 | zero => omega
 | succ n ih =>
  by_cases h0 : n = 0
  ·subst h0; decide
  ·have := ih (by omega)
   have h1 : n + 1 ≤ 2 ^ n := by omega
   rw [Nat.pow_succ]
   omega
theorem prod_pow {R : List Ed} {q : Rw → Nat} (hq : ∀ x, od R x ≠ 0 → q (lap R x) ≤ 2 ^ od R x) : ∀ ns : List Nat, (∀ x ∈ ns, od R x ≠ 0) → prodN q (ns.map (lap R)) ≤ 2 ^ (ns.map fun x => od R x).sum
 | [], _ => Nat.le_refl _
 | x :: ns, h => by
  simp only [List.map_cons, prodN, List.sum_cons]
  rw [Nat.pow_add]
  exact Nat.mul_le_mul (hq x (h x List.mem_cons_self)) (prod_pow hq ns fun y hy => h y (List.mem_cons_of_mem _ hy))
theorem od_sum_le (R : List Ed) {ns : List Nat} (hn : ns.Nodup) : (ns.map fun x => od R x).sum ≤ R.length := by
 rw [← (od_sum (p := fun y => decide (y ∈ ns)) ns hn (fun y => by simp) R).1]
 exact List.countP_le_length
theorem det_box {R : List Ed} {cs ns : List Nat} (hc : cs.Nodup) (hn : ns.Nodup) (hl : cs.length = ns.length) (ho : ∀ x ∈ ns, od R x ≠ 0) : (det cs (ns.map (lap R))).natAbs ≤ 2 ^ R.length := by
 refine Nat.le_trans (det_abs cs _ (by simp [hl])) (Nat.le_trans (prod_pow (fun x hx => ?_) ns ho) (Nat.pow_le_pow_right (by omega) (od_sum_le R hn)))
 exact Nat.le_trans (absC_lap hc x R) (two_pow (by omega))
end Go.Ev
namespace Go.Ev
def tw : Nat → List Ed → Nat → Int
 | 0, _, _ => 1
 | n + 1, R, a => sp (fun g k => if g.1 = a then tw n k g.2 else 0) R
theorem sp_bound {c : Int} (hc : 0 ≤ c) : ∀ {R : List Ed} {f : Ed → List Ed → Int}, (∀ x l, (x :: l).Perm R → 0 ≤ f x l ∧ f x l ≤ c) → 0 ≤ sp f R ∧ sp f R ≤ R.length * c
 | [], _, _ => by simp [sp]
 | z :: R, f, h => by
  have h1 := h z R (.refl _)
  have h2 := sp_bound hc (R := R) (f := fun y k => f y (z :: k)) fun y k hk => h y (z :: k) ((List.Perm.swap z y k).trans (hk.cons z))
  simp only [sp]
  have e1 : (((z :: R).length : Nat) : Int) * c = (R.length : Int) * c + c := by
   rw [List.length_cons, Int.natCast_add, Int.add_mul]; simp
  omega
theorem fctI_pos : ∀ n, 0 < fctI n
 | 0 => Int.zero_lt_one
 | n + 1 => Int.mul_pos (by omega) (fctI_pos n)
theorem tw_box : ∀ (n : Nat) {R : List Ed} (a : Nat), R.length = n → 0 ≤ tw n R a ∧ tw n R a ≤ fctI n
 | 0, _, _, _ => ⟨Int.le_of_lt Int.zero_lt_one, Int.le_refl _⟩
 | n + 1, R, a, hl => by
  have := sp_bound (c := fctI n) (Int.le_of_lt (fctI_pos n)) (R := R) (f := fun g k => if g.1 = a then tw n k g.2 else 0) fun x l hp => by
   have hll : l.length = n := by have := hp.length_eq; simp at this; omega
   have := tw_box n x.2 hll
   have := fctI_pos n
   split <;> omega
  rw [hl] at this
  exact this
theorem trl_nonneg (r : Nat) : ∀ (n : Nat) {R : List Ed} (a : Nat), R.length = n → 0 ≤ trl r n R a
 | 0, _, _, _ => by simp only [trl]; split <;> decide
 | n + 1, R, a, hl => by
  have hpos : ∀ {R : List Ed} {f : Ed → List Ed → Int}, (∀ x l, (x :: l).Perm R → 0 ≤ f x l) → 0 ≤ sp f R := fun {R} => by
   induction R with
   | nil => intro f _; exact Int.le_refl _
   | cons z R ih =>
    intro f h
    have h1 := h z R (.refl _)
    have h2 := ih (f := fun y k => f y (z :: k)) fun y k hk => h y (z :: k) ((List.Perm.swap z y k).trans (hk.cons z))
    simp only [sp]; omega
  refine hpos fun x l hp => ?_
  have hll : l.length = n := by have := hp.length_eq; simp at this; omega
  have := trl_nonneg r n x.2 hll
  split <;> omega
theorem sp_pos : ∀ {R : List Ed} {f : Ed → List Ed → Int}, (∀ x l, (x :: l).Perm R → 0 ≤ f x l) → 0 ≤ sp f R
 | [], _, _ => Int.le_refl _
 | z :: R, f, h => by
  have h1 := h z R (.refl _)
  have h2 := sp_pos (R := R) (f := fun y k => f y (z :: k)) fun y k hk => h y (z :: k) ((List.Perm.swap z y k).trans (hk.cons z))
  simp only [sp]; omega
theorem sp_ge {R l : List Ed} {x : Ed} (hp : R.Perm (x :: l)) {f : Ed → List Ed → Int} (hf : ∀ x l l', l.Perm l' → f x l = f x l') (h0 : ∀ y k, (y :: k).Perm R → 0 ≤ f y k) : f x l ≤ sp f R := by
 rw [sp_perm hp hf]
 have := sp_pos (R := l) (f := fun y k => f y (x :: k)) fun y k hk => h0 y (x :: k) (((List.Perm.swap x y k).trans (hk.cons x)).trans hp.symm)
 simp only [sp]; omega
theorem sp_some : ∀ {R : List Ed} {f : Ed → List Ed → Int}, sp f R ≠ 0 → ∃ x l, (x :: l).Perm R ∧ f x l ≠ 0
 | [], _, h => absurd rfl h
 | z :: R, f, h => by
  by_cases h1 : f z R = 0
  ·have h2 : sp (fun y k => f y (z :: k)) R ≠ 0 := fun h2 => h (by simp only [sp, h1, h2]; rfl)
   obtain ⟨x, l, hp, hf⟩ := sp_some h2
   exact ⟨x, z :: l, (List.Perm.swap z x l).trans (hp.cons z), hf⟩
  ·exact ⟨z, R, .refl _, h1⟩
theorem sumC_sp (F : Nat → Ed → List Ed → Int) (R : List Ed) : ∀ V : List Nat, sumC V (fun r => sp (F r) R) = sp (fun x l => sumC V fun r => F r x l) R
 | [] => (sp_zero R).symm
 | v :: V => by simp only [sumC]; rw [sumC_sp F R V, ← sp_add]
theorem tw_trl {V : List Nat} (hn : V.Nodup) : ∀ (n : Nat) {R : List Ed} {a : Nat}, R.length = n → (∀ e ∈ R, e.2 ∈ V) → a ∈ V → tw n R a = sumC V fun r => trl r n R a
 | 0, R, a, _, _, ha => by
  have h1 : sumC V (fun r => trl r 0 R a) = sumC V (dl a) := sumC_congr fun r _ => rfl
  rw [h1, sumC_dl hn ha]; rfl
 | n + 1, R, a, hl, hR, ha => by
  simp only [trl]
  rw [sumC_sp]
  simp only [tw]
  refine sp_congr fun x l hp => ?_
  have hll : l.length = n := by have := hp.length_eq; simp at this; omega
  have hx : x ∈ R := hp.mem_iff.1 List.mem_cons_self
  by_cases hxa : x.1 = a
  ·have h1 : sumC V (fun r => if x.1 = a then trl r n l x.2 else 0) = sumC V fun r => trl r n l x.2 := sumC_congr fun r _ => if_pos hxa
   rw [if_pos hxa, h1]
   exact tw_trl hn n hll (fun e he => hR e (hp.mem_iff.1 (List.mem_cons_of_mem _ he))) (hR x hx)
  ·have h1 : sumC V (fun r => if x.1 = a then trl r n l x.2 else 0) = sumC V fun _ => 0 := sumC_congr fun r _ => if_neg hxa
   rw [if_neg hxa, h1, sumC_zero]
theorem trl_need {r : Nat} : ∀ (n : Nat) {R : List Ed} {a : Nat}, R.length = n → trl r n R a ≠ 0 → (∀ x, od R x + (if r = x then 1 else 0) = idg R x + if a = x then 1 else 0) ∧ ∀ p : Nat → Bool, (∀ e ∈ R, p e.1 = p e.2) → ∀ e ∈ R, p e.1 = p a
 | 0, R, a, hl, h => by
  obtain rfl : R = [] := List.length_eq_zero_iff.1 hl
  simp only [trl] at h
  have hra : a = r := by
   apply Classical.byContradiction
   intro hne
   exact h (if_neg hne)
  subst hra
  exact ⟨fun x => rfl, fun p _ e he => by cases he⟩
 | n + 1, R, a, hl, h => by
  simp only [trl] at h
  obtain ⟨g, k, hp, hg⟩ := sp_some h
  have hkl : k.length = n := by have := hp.length_eq; simp at this; omega
  by_cases hga : g.1 = a
  ·rw [if_pos hga] at hg
   obtain ⟨i1, i2⟩ := trl_need n hkl hg
   refine ⟨fun x => ?_, fun p hpc e he => ?_⟩
   ·have := i1 x
    rw [← od_perm hp, ← idg_perm hp, od_cons, idg_cons, hga]
    omega
   ·have hgR : g ∈ R := hp.mem_iff.1 List.mem_cons_self
    have h2 := hpc g hgR
    rcases List.mem_cons.1 (hp.mem_iff.2 he) with rfl | he'
    ·rw [hga]
    ·rw [i2 p (fun f hf => hpc f (hp.mem_iff.1 (List.mem_cons_of_mem _ hf))) e he', ← h2, hga]
  ·exact absurd (if_neg hga) hg
end Go.Ev
namespace Go.Ev
def gE (es : List Ed) (i : Nat) : Ed := es.getD i (0, 0)
def rst (es : List Ed) (K : Nat → Bool) : List Ed := ((List.range es.length).filter K).map (gE es)
theorem gE_get {es : List Ed} {i : Nat} (h : i < es.length) : gE es i = es[i] := by simp [gE, List.getD, h]
theorem sp_map {g : Nat → Ed} : ∀ (L : List Nat) (f : Ed → List Ed → Int), L.Nodup → sp f (L.map g) = sumC L fun i => f (g i) ((L.filter fun j => decide (j ≠ i)).map g)
 | [], _, _ => rfl
 | x :: L, f, hn => by
  rw [List.nodup_cons] at hn
  simp only [List.map_cons, sp, sumC]
  rw [sp_map L (fun y k => f y (g x :: k)) hn.2]
  have h1 : ((x :: L).filter fun j => decide (j ≠ x)) = L := by
   rw [List.filter_cons, if_neg (by simp), List.filter_eq_self]
   intro y hy
   simp only [ne_eq, decide_not, Bool.not_eq_true', decide_eq_false_iff_not]
   exact fun e => hn.1 (e ▸ hy)
  have h2 : sumC L (fun i => f (g i) (g x :: (L.filter fun j => decide (j ≠ i)).map g)) = sumC L fun i => f (g i) (((x :: L).filter fun j => decide (j ≠ i)).map g) := sumC_congr fun i hi => by
   rw [List.filter_cons, if_pos (by simp only [ne_eq, decide_not, Bool.not_eq_true', decide_eq_false_iff_not]; exact fun e => hn.1 (e ▸ hi)), List.map_cons]
  rw [h1, h2]
theorem rst_congr {es : List Ed} {K K' : Nat → Bool} (h : ∀ i, i < es.length → K i = K' i) : rst es K = rst es K' := by
 unfold rst
 rw [List.filter_congr fun i hi => h i (List.mem_range.1 hi)]
theorem tw_rst {es : List Ed} {K : Nat → Bool} (a : Nat) (hne : rst es K ≠ []) : tw (rst es K).length (rst es K) a = sumC ((List.range es.length).filter K) fun i => if (gE es i).1 = a then tw (rst es fun j => K j && decide (j ≠ i)).length (rst es fun j => K j && decide (j ≠ i)) (gE es i).2 else 0 := by
 have hnd : ((List.range es.length).filter K).Nodup := List.Nodup.sublist List.filter_sublist List.nodup_range
 obtain ⟨n, hn⟩ : ∃ n, (rst es K).length = n + 1 := ⟨(rst es K).length - 1, by have := List.length_pos_iff.2 hne; omega⟩
 have hr : ∀ i, rst es (fun j => K j && decide (j ≠ i)) = (((List.range es.length).filter K).filter fun j => decide (j ≠ i)).map (gE es) := fun i => by
  unfold rst
  rw [List.filter_filter]
  congr 1
  apply List.filter_congr
  intro j _
  exact Bool.and_comm _ _
 rw [hn]
 have h1 : tw (n + 1) (rst es K) a = sp (fun g k => if g.1 = a then tw n k g.2 else 0) (((List.range es.length).filter K).map (gE es)) := rfl
 rw [h1, sp_map _ _ hnd]
 refine sumC_congr fun i hi => ?_
 have hl : (rst es fun j => K j && decide (j ≠ i)).length = n := by
  rw [hr, List.length_map]
  have h2 : (rst es K).length = ((List.range es.length).filter K).length := by unfold rst; rw [List.length_map]
  rw [h2] at hn
  have h3 : (((List.range es.length).filter K).filter fun j => decide (j ≠ i)) = ((List.range es.length).filter K).erase i := by
   rw [List.Nodup.erase_eq_filter hnd]
   apply List.filter_congr
   intro j _
   rw [Bool.eq_iff_iff]; simp
  rw [h3, List.length_erase_of_mem hi]; omega
 rw [← hr, hl]
theorem rst_len (es : List Ed) (K : Nat → Bool) : (rst es K).length ≤ es.length := by
 unfold rst
 rw [List.length_map]
 have := List.length_filter_le K (List.range es.length)
 simpa using this
theorem rst_all (es : List Ed) {K : Nat → Bool} (h : ∀ i, i < es.length → K i = true) : rst es K = es := by
 unfold rst
 rw [List.filter_eq_self.2 fun i hi => h i (List.mem_range.1 hi)]
 apply List.ext_getElem?
 intro i
 rw [List.getElem?_map]
 by_cases hi : i < es.length
 ·rw [List.getElem?_range hi, Option.map_some, gE_get hi, List.getElem?_eq_getElem hi]
 ·rw [List.getElem?_eq_none (by simp; omega), List.getElem?_eq_none (by omega)]; rfl
def bitK (s : Nat) (i : Nat) : Bool := !s.testBit i
def wB (es : List Ed) (s a : Nat) : Int := tw (rst es (bitK s)).length (rst es (bitK s)) a
theorem bitK_or (s i j : Nat) : bitK (s ||| 2 ^ i) j = (bitK s j && decide (j ≠ i)) := by
 unfold bitK
 rw [Nat.testBit_or, Nat.testBit_two_pow, Bool.not_or]
 congr 1
 rw [Bool.eq_iff_iff]
 simp
 omega
theorem wB_step {es : List Ed} {s : Nat} (a : Nat) (hne : rst es (bitK s) ≠ []) : wB es s a = sumC ((List.range es.length).filter (bitK s)) fun i => if (gE es i).1 = a then wB es (s ||| 2 ^ i) (gE es i).2 else 0 := by
 unfold wB
 rw [tw_rst a hne]
 refine sumC_congr fun i _ => ?_
 rw [rst_congr (K := bitK (s ||| 2 ^ i)) (K' := fun j => bitK s j && decide (j ≠ i)) fun j _ => bitK_or s i j]
theorem fctI_mono : ∀ {a b : Nat}, a ≤ b → fctI a ≤ fctI b := fun {a b} h => by
 induction h with
 | refl => exact Int.le_refl _
 | @step m _ ih =>
  have := fctI_pos m
  have h2 : fctI (m + 1) = ((m + 1 : Nat) : Int) * fctI m := rfl
  have h3 : 1 * fctI m ≤ ((m + 1 : Nat) : Int) * fctI m := Int.mul_le_mul_of_nonneg_right (by omega) (by omega)
  show fctI a ≤ fctI (m + 1)
  omega
theorem wB_box (es : List Ed) (s a : Nat) : 0 ≤ wB es s a ∧ wB es s a ≤ fctI es.length := by
 have h1 := tw_box _ (R := rst es (bitK s)) a rfl
 have h2 := fctI_mono (rst_len es (bitK s))
 unfold wB
 omega
theorem wB_zero (es : List Ed) (a : Nat) : wB es 0 a = tw es.length es a := by
 unfold wB
 rw [rst_all es fun i _ => by simp [bitK]]
end Go.Ev
