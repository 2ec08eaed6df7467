import Derived.Test.YtkpjhgkmjcdobaaGreatDoorG2
import Derived.Test.YtkpjhgkmjcdobaaGreatDoorRRule
/-
  noontideref20: find and Check, as the program runs them.
-/
namespace Go.Proofs.YtkpjhgkmjcdobaaGreatDoor
open Go.RowKit NB Fmt
namespace RFmt
/-- what is known of the first k bytes -/
def St (l : List UInt8) (c : UInt8) (k : Nat) (a : Int) : Prop := (a = -1 ∧ ∀ j : Nat, j < k → l[j]? ≠ some c) ∨ (∃ i : Nat, i < k ∧ a = i ∧ l[i]? = some c ∧ ∀ j : Nat, j < k → l[j]? = some c → j = i)
theorem St.skip {l : List UInt8} {c : UInt8} {k : Nat} {a : Int} (h : St l c k a) (hn : l[k]? ≠ some c) : St l c (k + 1) a := by
  rcases h with ⟨h1, h2⟩ | ⟨i, h1, h2, h3, h4⟩
  · refine .inl ⟨h1, fun j hj => ?_⟩
    rcases (by omega : j < k ∨ j = k) with hj | rfl
    · exact h2 j hj
    · exact hn
  · refine .inr ⟨i, by omega, h2, h3, fun j hj hjc => ?_⟩
    rcases (by omega : j < k ∨ j = k) with hj | rfl
    · exact h4 j hj hjc
    · exact absurd hjc hn
theorem St.fin {l : List UInt8} {c : UInt8} {a : Int} (h : St l c l.length a) : FindIs l c a := by
  have lt : ∀ j : Nat, l[j]? = some c → j < l.length := fun j hj => (List.getElem?_eq_some_iff.1 hj).1
  rcases h with ⟨h1, h2⟩ | ⟨i, h1, h2, h3, h4⟩
  · exact .inl ⟨h1, fun j hj => h2 j (lt j hj) hj⟩
  · exact .inr (.inr ⟨i, h2, h3, fun j hj => h4 j (lt j hj) hj⟩)
set_option maxHeartbeats 1600000 in
theorem find (s : ByteArray) (hs : s.size ≤ 9223372036854775807) (c : UInt8) (w : World) : Calls Tryz.prog 134 #[.string s, .int .u8 (c.toNat : Int)] w fun e w' => (∃ r, e = .returned (.int .i64 r) ∧ FindIs s.data.toList c r) ∧ w = w' := by
  go_enter Tryz.func134, Tryz.ntmps134
  go_wp2
  go_loop [5, 6] (fun a i => ∃ (k : Nat) (x : Int), k ≤ s.size ∧ i = .int .i64 k ∧ a = .int .i64 x ∧ St s.data.toList c k x) (fun _ i => s.size - (intOf i).toNat)
  case atStart => exact ⟨0, -1, Nat.zero_le _, rfl, rfl, .inl ⟨rfl, fun j hj => absurd hj (Nat.not_lt_zero _)⟩⟩
  case round =>
    obtain ⟨k, x, hk, rfl, rfl, hst⟩ := hrel
    have Hst := Lib.hid hst
    clear hst
    by_cases hlt : k < s.size
    · have hc := RRule.byte_at hlt
      have Hc := Lib.hid hc
      clear hc
      by_cases he : s[k] = c
      · rcases Hst.out with ⟨h1, h2⟩ | ⟨i, h1, h2, h3, h4⟩
        · subst h1
          have H2 := Lib.hid h2
          have Hcc := Lib.hid (show s.data.toList[k]? = some c by rw [Hc.out, he])
          clear h2
          have hee : (s[k].toNat : Int) = c.toNat := by rw [he]
          clear he
          go_wp2
          go_round
          case rel => exact ⟨k + 1, k, by omega, by go_num, rfl, .inr ⟨k, by omega, rfl, Hcc.out, fun j hj hjc => by rcases (by omega : j < k ∨ j = k) with hj | rfl; exact absurd hjc (H2.out j hj); rfl⟩⟩
          case measure => simp [intOf]; omega
        · subst h2
          have H3 := Lib.hid h3
          have Hcc := Lib.hid (show s.data.toList[k]? = some c by rw [Hc.out, he])
          have hee : (s[k].toNat : Int) = c.toNat := by rw [he]
          clear he h3 h4
          go_wp2
          go_ret
          exact ⟨⟨_, rfl, .inr (.inl ⟨rfl, i, k, h1, H3.out, Hcc.out⟩)⟩, rfl⟩
      · have hne : ¬ (s[k].toNat : Int) = c.toNat := fun h => he (UInt8.toNat_inj.1 (by omega))
        have Hnc := Lib.hid (show s.data.toList[k]? ≠ some c by rw [Hc.out]; simpa using he)
        clear he
        go_wp2
        go_round
        case rel => exact ⟨k + 1, x, by omega, by go_num, rfl, Hst.out.skip Hnc.out⟩
        case measure => simp [intOf]; omega
    · have hkn : k = s.size := by omega
      go_wp2
      go_ret
      refine ⟨⟨_, rfl, ?_⟩, rfl⟩
      have := Hst.out
      rw [hkn] at this
      exact St.fin (by simpa using this)
theorem allow_succ {l : List UInt8} {k : Nat} {c : UInt8} (h : allow (l.take k) = true) (hc : l[k]? = some c) (h2 : wset.contains c = true ∨ c = 37 ∨ c = 47) : allow (l.take (k + 1)) = true := by
  unfold allow at *
  rw [List.take_add_one, hc, List.all_append, h]
  rcases h2 with h2 | rfl | rfl <;> simp
  left; left
  simpa using h2
theorem allow_not {l : List UInt8} {k : Nat} {c : UInt8} (hc : l[k]? = some c) (h1 : wset.contains c = false) (h2 : c ≠ 37) (h3 : c ≠ 47) : allow l = false := by
  unfold allow
  rw [Bool.eq_false_iff]
  intro h
  rw [List.all_eq_true] at h
  have := h c (List.mem_of_getElem? hc)
  simp only [h1, Bool.false_or, Bool.or_eq_true, beq_iff_eq] at this
  rcases this with h | h
  · exact h2 h
  · exact h3 h
theorem check_no {s : ByteArray} (h16 : ¬ 16 < s.size) (ha : allow s.data.toList = false) : checkE s = 4 := by
  unfold checkE
  rw [if_neg h16]
  have hf : ∀ c, ∃ r, FindIs s.data.toList c r := by
    intro c
    generalize s.data.toList = l
    induction l with
    | nil => exact ⟨-1, .inl ⟨rfl, by simp⟩⟩
    | cons x xs ih =>
      obtain ⟨r, hr⟩ := ih
      by_cases hx : x = c
      · rcases hr with ⟨_, h⟩ | ⟨_, i, j, h1, h2, h3⟩ | ⟨i, _, h2, _⟩
        · refine ⟨0, .inr (.inr ⟨0, rfl, by simp [hx], fun j hj => ?_⟩)⟩
          cases j with
          | zero => rfl
          | succ j => exact absurd (by simpa using hj) (h j)
        · exact ⟨-2, .inr (.inl ⟨rfl, i + 1, j + 1, by omega, by simpa using h2, by simpa using h3⟩)⟩
        · exact ⟨-2, .inr (.inl ⟨rfl, 0, i + 1, by omega, by simp [hx], by simpa using h2⟩)⟩
      · rcases hr with ⟨_, h⟩ | ⟨_, i, j, h1, h2, h3⟩ | ⟨i, _, h2, h3⟩
        · refine ⟨-1, .inl ⟨rfl, fun j hj => ?_⟩⟩
          cases j with
          | zero => simp at hj; exact hx hj
          | succ j => exact h j (by simpa using hj)
        · exact ⟨-2, .inr (.inl ⟨rfl, i + 1, j + 1, by omega, by simpa using h2, by simpa using h3⟩)⟩
        · refine ⟨(i + 1 : Nat), .inr (.inr ⟨i + 1, rfl, by simpa using h2, fun j hj => ?_⟩)⟩
          cases j with
          | zero => simp at hj; exact absurd hj hx
          | succ j => rw [h3 j (by simpa using hj)]
  obtain ⟨p, hp⟩ := hf 37
  obtain ⟨q, hq⟩ := hf 47
  have := kind_law s hp hq
  by_cases h : (cutF s).1 = 0
  · rw [if_pos h]
  · have := (this.1 h).1
    rw [ha] at this
    cases this
theorem check_ok {s : ByteArray} (h16 : ¬ 16 < s.size) (ha : allow s.data.toList = true) {p q : Int} (hp : FindIs s.data.toList 37 p) (hq : FindIs s.data.toList 47 q) : checkE s = if okR s.data.toList p q = true then 0 else 4 := by
  unfold checkE
  rw [if_neg h16]
  have := kind_law s hp hq
  by_cases h : okR s.data.toList p q = true
  · rw [if_pos h, if_neg (this.2 ⟨ha, h⟩)]
  · rw [if_neg h]
    by_cases h' : (cutF s).1 = 0
    · rw [if_pos h']
    · exact absurd (this.1 h').2 h
set_option maxHeartbeats 3200000 in
theorem Check (s : ByteArray) (hs : s.size ≤ 9223372036854775807) (w : World) : Calls Tryz.prog 90 #[.string s] w fun e w' => e = .returned (.int .i64 (checkE s)) ∧ w = w' := by
  by_cases h16 : 16 < s.size
  · rw [show checkE s = 9 by unfold checkE; rw [if_pos h16]]
    go_enter Tryz.func90, Tryz.ntmps90
    go_wp2
    go_ret
    exact ⟨rfl, rfl⟩
  have cp := fun W => find s hs 37 W
  have cq := fun W => find s hs 47 W
  rw [show ((37 : UInt8).toNat : Int) = 37 from rfl] at cp
  rw [show ((47 : UInt8).toNat : Int) = 47 from rfl] at cq
  have Cp := Lib.hid cp
  have Cq := Lib.hid cq
  clear cp cq
  go_enter Tryz.func90, Tryz.ntmps90
  go_wp2
  go_loop [4] (fun i => ∃ k : Nat, k ≤ s.size ∧ i = .int .i64 k ∧ allow (s.data.toList.take k) = true) (fun i => s.size - (intOf i).toNat)
  case atStart => exact ⟨0, Nat.zero_le _, rfl, rfl⟩
  case round =>
    obtain ⟨k, hk, rfl, hal⟩ := hrel
    by_cases hlt : k < s.size
    · have hc := RRule.byte_at hlt
      have cl := fun W => RRule.letter s[k] W
      have hsucc := fun h2 => allow_succ hal hc h2
      have hfail := fun h1 h2 h3 => allow_not hc h1 h2 h3
      have Hsucc := Lib.hid hsucc
      have Hfail := Lib.hid hfail
      clear hsucc hfail hal hc
      have hx37 : (s[k].toNat : Int) = 37 ↔ s[k] = 37 := ⟨fun h => UInt8.toNat_inj.1 (by show s[k].toNat = 37; omega), fun h => by rw [h]; rfl⟩
      have hx47 : (s[k].toNat : Int) = 47 ↔ s[k] = 47 := ⟨fun h => UInt8.toNat_inj.1 (by show s[k].toNat = 47; omega), fun h => by rw [h]; rfl⟩
      cases hL : wset.contains s[k]
      · rw [hL] at cl
        by_cases h37 : s[k] = 37
        · have hs2 := Lib.hid (Hsucc.out (.inr (.inl h37)))
          have e37 := hx37.2 h37
          rw [e37] at cl
          have Cl := Lib.hid cl
          clear cl
          clear hx37 hx47 h37 hL
          go_wp2_with (go_at_call 133; (with_reducible refine (Cl.out _).mono ?_); rintro e w' ⟨rfl, rfl⟩)
          go_round
          case rel => exact ⟨k + 1, by omega, by go_num, hs2.out⟩
          case measure => simp [intOf]; omega
        · by_cases h47 : s[k] = 47
          · have hs2 := Lib.hid (Hsucc.out (.inr (.inr h47)))
            have e47 := hx47.2 h47
            rw [e47] at cl
            have Cl := Lib.hid cl
            clear cl
            clear hx37 hx47 h37 hL h47
            go_wp2_with (go_at_call 133; (with_reducible refine (Cl.out _).mono ?_); rintro e w' ⟨rfl, rfl⟩)
            go_round
            case rel => exact ⟨k + 1, by omega, by go_num, hs2.out⟩
            case measure => simp [intOf]; omega
          · have e47 : ¬ (s[k].toNat : Int) = 47 := fun h => h47 (hx47.1 h)
            have e37 : ¬ (s[k].toNat : Int) = 37 := fun h => h37 (hx37.1 h)
            have Cl := Lib.hid cl
            clear cl
            have hr := Lib.hid (check_no h16 (Hfail.out hL h37 h47))
            have f37 : ((s[k].toNat : Int) != 37) = true := by simpa using e37
            have f47 : ((s[k].toNat : Int) != 47) = true := by simpa using e47
            clear hx37 hx47 h37 hL h47 e37 e47
            go_wp2_with (go_at_call 133; (with_reducible refine (Cl.out _).mono ?_); rintro e w' ⟨rfl, rfl⟩)
            go_ret
            exact ⟨congrArg (fun v => Ending.returned (Value.int .i64 v)) hr.out.symm, rfl⟩
      · rw [hL] at cl
        have Cl := Lib.hid cl
        have hs2 := Lib.hid (Hsucc.out (.inl hL))
        clear cl hx37 hx47 hL
        go_wp2_with (go_at_call 133; (with_reducible refine (Cl.out _).mono ?_); rintro e w' ⟨rfl, rfl⟩)
        go_round
        case rel => exact ⟨k + 1, by omega, by go_num, hs2.out⟩
        case measure => simp [intOf]; omega
    · have hkn : k = s.size := by omega
      rw [hkn, List.take_of_length_le (by simp)] at hal
      have hck := fun p q hp hq => check_ok h16 hal (p := p) (q := q) hp hq
      have Hck := Lib.hid hck
      obtain ⟨z, hz⟩ : ∃ z : Bool, z = decide (s.toList = [37, 122]) := ⟨_, rfl⟩
      have ez : (s.toList == [37, 122]) = z := by rw [hz]; cases h : decide (s.toList = [37, 122]) <;> simp at h ⊢ <;> exact h
      have ez2 : decide (s.data.toList = [37, 122]) = z := by rw [hz, ByteArray.toList_eq]
      have Ez2 := Lib.hid ez2
      clear hck hal hz ez2
      go_upto_region 10 with (first
        | (go_at_call 134; (with_reducible refine (Cp.out _).mono ?_); rintro e w' ⟨⟨p, rfl, hp⟩, rfl⟩)
        | (go_at_call 134; (with_reducible refine (Cq.out _).mono ?_); rintro e w' ⟨⟨q, rfl, hq⟩, rfl⟩))
      have hres := Hck.out p q hp hq
      unfold okR at hres
      rw [Ez2.out] at hres
      have hlen : s.data.toList.length = s.size := by simp
      rw [hlen] at hres
      have Hres := Lib.hid hres
      have HP := Lib.hid hp
      have HQ := Lib.hid hq
      have hpc : p = -1 ∨ p = -2 ∨ ∃ i : Nat, p = i ∧ i < s.size := by
        rcases hp with ⟨h, _⟩ | ⟨h, _⟩ | ⟨i, h, h1, _⟩
        · exact .inl h
        · exact .inr (.inl h)
        · exact .inr (.inr ⟨i, h, by have := (List.getElem?_eq_some_iff.1 h1).1; simpa using this⟩)
      have hqc : q = -1 ∨ q = -2 ∨ ∃ i : Nat, q = i ∧ i < s.size := by
        rcases hq with ⟨h, _⟩ | ⟨h, _⟩ | ⟨i, h, h1, _⟩
        · exact .inl h
        · exact .inr (.inl h)
        · exact .inr (.inr ⟨i, h, by have := (List.getElem?_eq_some_iff.1 h1).1; simpa using this⟩)
      clear hres hp hq HP HQ
      have hbad : ∀ v : Int, (checkE s = v) → Hid (checkE s = v) := fun _ h => Lib.hid h
      rcases hpc with rfl | rfl | ⟨i, rfl, hi⟩
      · rcases hqc with rfl | rfl | ⟨j, rfl, hj⟩
        · by_cases hsz : 0 < s.size
          · have hr := hbad 0 (by rw [Hres.out, if_pos (by simp [hsz])])
            clear Hres Hck Ez2
            go_wp2
            all_goals go_ret
            all_goals exact ⟨congrArg (fun v => Ending.returned (Value.int .i64 v)) hr.out.symm, rfl⟩
          · have hsz0 : s.size = 0 := by omega
            cases z
            · have hr := hbad 4 (by rw [Hres.out, if_neg (by simp [hsz0])])
              clear Hres Hck Ez2
              go_wp2
              all_goals go_ret
              all_goals exact ⟨congrArg (fun v => Ending.returned (Value.int .i64 v)) hr.out.symm, rfl⟩
            · have hr := hbad 0 (by rw [Hres.out, if_pos (by simp)])
              clear Hres Hck Ez2
              go_wp2
              all_goals go_ret
              all_goals exact ⟨congrArg (fun v => Ending.returned (Value.int .i64 v)) hr.out.symm, rfl⟩
        · cases z
          · have hr := hbad 4 (by rw [Hres.out, if_neg (by simp)])
            clear Hres Hck Ez2
            go_wp2
            all_goals go_ret
            all_goals exact ⟨congrArg (fun v => Ending.returned (Value.int .i64 v)) hr.out.symm, rfl⟩
          · have hr := hbad 0 (by rw [Hres.out, if_pos (by simp)])
            clear Hres Hck Ez2
            go_wp2
            all_goals go_ret
            all_goals exact ⟨congrArg (fun v => Ending.returned (Value.int .i64 v)) hr.out.symm, rfl⟩
        · by_cases hd : 0 < j ∧ j + 1 < s.size
          · have hr := hbad 0 (by rw [Hres.out, if_pos (by simp; left; omega)])
            have hd1 : (0 : Int) < j := by omega
            have hd2 : (j : Int) < s.size - 1 := by omega
            clear Hres Hck Ez2
            go_wp2
            all_goals go_ret
            all_goals exact ⟨congrArg (fun v => Ending.returned (Value.int .i64 v)) hr.out.symm, rfl⟩
          · rcases (by omega : j = 0 ∨ s.size ≤ j + 1) with hd | hd
            · subst hd
              cases z
              · have hr := hbad 4 (by rw [Hres.out, if_neg (by simp)])
                clear Hres Hck Ez2
                go_wp2
                all_goals go_ret
                all_goals exact ⟨congrArg (fun v => Ending.returned (Value.int .i64 v)) hr.out.symm, rfl⟩
              · have hr := hbad 0 (by rw [Hres.out, if_pos (by simp)])
                clear Hres Hck Ez2
                go_wp2
                all_goals go_ret
                all_goals exact ⟨congrArg (fun v => Ending.returned (Value.int .i64 v)) hr.out.symm, rfl⟩
            · have hd2 : ¬ (j : Int) < s.size - 1 := by omega
              cases z
              · have hr := hbad 4 (by rw [Hres.out, if_neg (by simp; omega)])
                clear Hres Hck Ez2
                go_wp2
                all_goals go_ret
                all_goals exact ⟨congrArg (fun v => Ending.returned (Value.int .i64 v)) hr.out.symm, rfl⟩
              · have hr := hbad 0 (by rw [Hres.out, if_pos (by simp)])
                clear Hres Hck Ez2
                go_wp2
                all_goals go_ret
                all_goals exact ⟨congrArg (fun v => Ending.returned (Value.int .i64 v)) hr.out.symm, rfl⟩
      · rcases hqc with rfl | rfl | ⟨j, rfl, hj⟩
        all_goals
          cases z
          · have hr := hbad 4 (by rw [Hres.out, if_neg (by simp)])
            clear Hres Hck Ez2
            go_wp2
            all_goals go_ret
            all_goals exact ⟨congrArg (fun v => Ending.returned (Value.int .i64 v)) hr.out.symm, rfl⟩
          · have hr := hbad 0 (by rw [Hres.out, if_pos (by simp)])
            clear Hres Hck Ez2
            go_wp2
            all_goals go_ret
            all_goals exact ⟨congrArg (fun v => Ending.returned (Value.int .i64 v)) hr.out.symm, rfl⟩
      · rcases hqc with rfl | rfl | ⟨j, rfl, hj⟩
        · by_cases hd : i + 1 < s.size
          · have hx := RRule.byte_at hd
            by_cases hx5 : s[i + 1] = 115
            · have hr := hbad 0 (by rw [Hres.out, if_pos (by rw [Int.toNat_natCast, hx, hx5]; simp; left; omega)])
              have e115 : (s[i + 1].toNat : Int) = 115 := by rw [hx5]; rfl
              clear hx hx5
              clear Hres Hck Ez2
              go_wp2
              all_goals go_ret
              all_goals exact ⟨congrArg (fun v => Ending.returned (Value.int .i64 v)) hr.out.symm, rfl⟩
            · have e115 : ¬ (s[i + 1].toNat : Int) = 115 := fun h => hx5 (UInt8.toNat_inj.1 (by show s[i + 1].toNat = 115; omega))
              cases z
              · have hr := hbad 4 (by rw [Hres.out, if_neg (by rw [Int.toNat_natCast, hx]; simp [hx5])])
                clear hx hx5
                clear Hres Hck Ez2
                go_wp2
                all_goals go_ret
                all_goals exact ⟨congrArg (fun v => Ending.returned (Value.int .i64 v)) hr.out.symm, rfl⟩
              · have hr := hbad 0 (by rw [Hres.out, if_pos (by simp)])
                clear hx hx5
                clear Hres Hck Ez2
                go_wp2
                all_goals go_ret
                all_goals exact ⟨congrArg (fun v => Ending.returned (Value.int .i64 v)) hr.out.symm, rfl⟩
          · cases z
            · have hr := hbad 4 (by rw [Hres.out, if_neg (by simp; intro h; omega)])
              clear Hres Hck Ez2
              go_wp2
              all_goals go_ret
              all_goals exact ⟨congrArg (fun v => Ending.returned (Value.int .i64 v)) hr.out.symm, rfl⟩
            · have hr := hbad 0 (by rw [Hres.out, if_pos (by simp)])
              clear Hres Hck Ez2
              go_wp2
              all_goals go_ret
              all_goals exact ⟨congrArg (fun v => Ending.returned (Value.int .i64 v)) hr.out.symm, rfl⟩
        all_goals
          cases z
          · have hr := hbad 4 (by rw [Hres.out, if_neg (by simp)])
            clear Hres Hck Ez2
            go_wp2
            all_goals go_ret
            all_goals exact ⟨congrArg (fun v => Ending.returned (Value.int .i64 v)) hr.out.symm, rfl⟩
          · have hr := hbad 0 (by rw [Hres.out, if_pos (by simp)])
            clear Hres Hck Ez2
            go_wp2
            all_goals go_ret
            all_goals exact ⟨congrArg (fun v => Ending.returned (Value.int .i64 v)) hr.out.symm, rfl⟩
end RFmt
end Go.Proofs.YtkpjhgkmjcdobaaGreatDoor
