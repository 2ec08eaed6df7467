/-
  The year, the month and the day of a number of days, in plain integers.
-/
import Derived.Test.YtcfmchpoclkpgaaCal
namespace Go.Proofs.Ytcfmchpoclkpgaa
namespace Yr
def G (r : Int) : Int := r - r/1460 + r/36524 - r/146096
def F (r : Int) : Int := G r / 365
def S (y : Int) : Int := 365*y + y/4 - y/100 + y/400
theorem G_succ (r : Int) : G r ≤ G (r + 1) := by unfold G; omega
theorem G_mono (r : Int) (n : Nat) : G r ≤ G (r + n) := by
  induction n with
  | zero => simp
  | succ n ih =>
    have := G_succ (r + n)
    rw [show r + ((n + 1 : Nat) : Int) = r + n + 1 by omega]
    omega
theorem F_mono {a b : Int} (h : a ≤ b) : F a ≤ F b := by
  have := G_mono a (b - a).toNat
  rw [show a + ((b - a).toNat : Int) = b by omega] at this
  exact Int.ediv_le_ediv (by decide) this
theorem ends : ∀ y : Fin 400, F (S (y.val : Int)) = y.val ∧ F (S (y.val + 1 : Int) - 1) = y.val := by decide +kernel
theorem find (r : Int) (h0 : 0 ≤ r) : ∀ n : Nat, r < S n → ∃ y : Nat, y < n ∧ S y ≤ r ∧ r < S (y + 1 : Int)
  | 0, h => by simp [S] at h; omega
  | n + 1, h => by
    by_cases hc : r < S n
    · obtain ⟨y, h1, h2⟩ := find r h0 n hc
      exact ⟨y, by omega, h2⟩
    · exact ⟨n, by omega, by omega, by simpa using h⟩
theorem yr (r : Int) (h0 : 0 ≤ r) (h1 : r < 146097) : 0 ≤ F r ∧ F r ≤ 399 ∧ S (F r) ≤ r ∧ r < S (F r + 1) := by
  obtain ⟨y, hy, h2, h3⟩ := find r h0 400 (by have : S ((400 : Nat) : Int) = 146097 := by decide
                                              omega)
  obtain ⟨e1, e2⟩ := ends ⟨y, hy⟩
  have m1 := F_mono h2
  have m2 := F_mono (show r ≤ S (y + 1 : Int) - 1 by omega)
  simp only at e1 e2
  have : F r = y := by omega
  rw [this]
  exact ⟨by omega, by omega, h2, h3⟩
def dq (n : Int) : Int := (n + 719468) / 146097
def dr (n : Int) : Int := (n + 719468) % 146097
def dy (n : Int) : Int := F (dr n)
def dl (n : Int) : Int := dr n - (365 * dy n + dy n / 4 - dy n / 100)
def dm (n : Int) : Int := (5 * dl n + 2) / 153
/-- the date of a number -/
def dY (n : Int) : Int := if 12 < dm n + 3 then dq n * 400 + dy n + 1 else dq n * 400 + dy n
def dM (n : Int) : Int := if 12 < dm n + 3 then dm n + 3 - 12 else dm n + 3
def dD (n : Int) : Int := dl n - (153 * dm n + 2) / 5 + 1
structure Valid (y m d : Int) : Prop where
  m1 : 1 ≤ m
  m2 : m ≤ 12
  d1 : 1 ≤ d
  d2 : d ≤ Cal.len y m
theorem dr_bd (n : Int) : 0 ≤ dr n ∧ dr n < 146097 := by unfold dr; omega
theorem lp_cycle (q y : Int) : Cal.lp (q * 400 + y + 1) = S (y + 1) - S y - 365 := by
  rw [Cal.lp_eq]
  unfold S
  have h1 : (q * 400 + y + 1) / 4 = 100 * q + (y + 1) / 4 := by omega
  have h2 : (q * 400 + y + 1) / 100 = 4 * q + (y + 1) / 100 := by omega
  have h3 : (q * 400 + y + 1) / 400 = q + (y + 1) / 400 := by omega
  have h4 : (q * 400 + y + 1 - 1) / 4 = 100 * q + y / 4 := by omega
  have h5 : (q * 400 + y + 1 - 1) / 100 = 4 * q + y / 100 := by omega
  have h6 : (q * 400 + y + 1 - 1) / 400 = q + y / 400 := by omega
  omega
theorem dl_eq (n : Int) : dl n = dr n - S (dy n) := by
  obtain ⟨h0, h1⟩ := dr_bd n
  obtain ⟨h2, h3, _, _⟩ := yr (dr n) h0 h1
  unfold dl S
  rw [show F (dr n) = dy n from rfl] at *
  have : dy n / 400 = 0 := by omega
  omega
theorem dl_bd (n : Int) : 0 ≤ dl n ∧ dl n ≤ 364 + Cal.lp (dq n * 400 + dy n + 1) := by
  obtain ⟨h0, h1⟩ := dr_bd n
  obtain ⟨h2, h3, h4, h5⟩ := yr (dr n) h0 h1
  rw [lp_cycle, dl_eq]
  rw [show F (dr n) = dy n from rfl] at *
  omega
theorem dm_bd (n : Int) : 0 ≤ dm n ∧ dm n ≤ 11 := by
  obtain ⟨h1, h2⟩ := dl_bd n
  have := Cal.lp_01 (dq n * 400 + dy n + 1)
  unfold dm; omega
theorem months0 {m : Int} (h1 : 0 ≤ m) (h2 : m ≤ 11) : m = 0 ∨ m = 1 ∨ m = 2 ∨ m = 3 ∨ m = 4 ∨ m = 5 ∨ m = 6 ∨ m = 7 ∨ m = 8 ∨ m = 9 ∨ m = 10 ∨ m = 11 := by omega
theorem valid (n : Int) : Valid (dY n) (dM n) (dD n) := by
  obtain ⟨h1, h2⟩ := dl_bd n
  have := Cal.lp_01 (dq n * 400 + dy n + 1)
  obtain ⟨h4, h5⟩ := dm_bd n
  have hd : dm n = (5 * dl n + 2) / 153 := rfl
  have hM : 1 ≤ dM n ∧ dM n ≤ 12 := by unfold dM; split <;> omega
  refine ⟨hM.1, hM.2, by unfold dD; omega, ?_⟩
  unfold dY dM dD Cal.len
  rcases months0 h4 h5 with h | h | h | h | h | h | h | h | h | h | h | h <;> rw [h] at hd ⊢ <;> simp <;> omega
theorem days_of (n : Int) : Cal.days (dY n) (dM n) (dD n) = n := by
  have hv := valid n
  rw [← Cal.number_eq _ _ _ hv.m1 hv.m2]
  obtain ⟨h4, h5⟩ := dm_bd n
  obtain ⟨g0, g1⟩ := dr_bd n
  obtain ⟨g2, g3, _, _⟩ := yr (dr n) g0 g1
  rw [show F (dr n) = dy n from rfl] at *
  have e0 : Cal.y0 (dY n) (dM n) = dq n * 400 + dy n := by unfold Cal.y0 dY dM; split <;> split <;> omega
  have e1 : Cal.m0 (dM n) = dm n := by unfold Cal.m0 dM; split <;> split <;> omega
  unfold Cal.number
  rw [e0, e1]
  have e2 : (dq n * 400 + dy n) / 400 = dq n := by omega
  have e3 : (dq n * 400 + dy n) % 400 = dy n := by omega
  rw [e2, e3]
  have e4 : dr n + 146097 * dq n = n + 719468 := by unfold dr dq; omega
  unfold dD dl
  omega
theorem ahead_le {y m d : Int} (h : Valid y m d) : Cal.ahead y ≤ Cal.days y m d ∧ Cal.days y m d < Cal.ahead (y + 1) := by
  have h1 := Cal.cum_bd y m h.m1 h.m2
  have h2 := Cal.ahead_succ y
  obtain ⟨_, _, _, _⟩ := h
  unfold Cal.days
  omega
theorem cum_mono {y m k : Int} (h1 : 1 ≤ m) (h2 : k ≤ 12) (h : m < k) : Cal.cum y m + Cal.len y m ≤ Cal.cum y k := by
  have := Cal.lp_01 y
  rw [← Cal.cum_succ y m h1 (by omega)]
  unfold Cal.cum
  rcases Cal.months h1 (by omega : m ≤ 12) with rfl | rfl | rfl | rfl | rfl | rfl | rfl | rfl | rfl | rfl | rfl | rfl <;>
    rcases Cal.months (m := k) (by omega) h2 with rfl | rfl | rfl | rfl | rfl | rfl | rfl | rfl | rfl | rfl | rfl | rfl <;> simp at h ⊢ <;> omega
theorem unique {y m d y' m' d' : Int} (h : Valid y m d) (h' : Valid y' m' d') (he : Cal.days y m d = Cal.days y' m' d') : y = y' ∧ m = m' ∧ d = d' := by
  obtain ⟨a1, a2⟩ := ahead_le h
  obtain ⟨b1, b2⟩ := ahead_le h'
  have hy : y = y' := by
    rcases Int.lt_trichotomy y y' with hl | hl | hl
    · have := Cal.ahead_mono (show y + 1 ≤ y' by omega); omega
    · exact hl
    · have := Cal.ahead_mono (show y' + 1 ≤ y by omega); omega
  subst hy
  have hm : m = m' := by
    rcases Int.lt_trichotomy m m' with hl | hl | hl
    · have := cum_mono (y := y) h.m1 h'.m2 hl
      have := h.d2; have := h'.d1
      unfold Cal.days at he; omega
    · exact hl
    · have := cum_mono (y := y) h'.m1 h.m2 hl
      have := h'.d2; have := h.d1
      unfold Cal.days at he; omega
  subst hm
  exact ⟨rfl, rfl, by unfold Cal.days at he; omega⟩
theorem year_of (n : Int) : Cal.ahead (dY n) ≤ n ∧ n < Cal.ahead (dY n + 1) := by
  have := ahead_le (valid n)
  rwa [days_of] at this
end Yr
end Go.Proofs.Ytcfmchpoclkpgaa
