/- Chapter 20: what Parse gives is a pattern in its form: plain. No program in sight. -/
import Derived.Test.YtgianjnccpbnaaaDoorHtl
namespace Go.Proofs.YtgianjnccpbnaaaDoor
theorem parseF_ok (s : ByteArray) : ∀ (f pos : Nat) (ls ds : List Int) (now : Int) (told : Bool) (q : List Int × List Int), parseF s f pos ls ds now told = some q → ls.length = ds.length → LsOk ls → DsOk ds → 0 ≤ now → now ≤ 9 → q.2.length = q.1.length + 1 ∧ LsOk q.1 ∧ DsOk q.2
  | 0, pos, ls, ds, now, told, q, h, hl, h1, h2, h3, h4 => by
    injection h with h
    subst h
    exact ⟨by simp [hl], h1, h2.snoc h3 h4⟩
  | f + 1, pos, ls, ds, now, told, q, h, hl, h1, h2, h3, h4 => by
    by_cases hp : pos < s.size
    · cases ho : okU s pos with
      | false => rw [parse_bad hp ho] at h; cases h
      | true =>
        cases hd : dig (ru s pos) with
        | true =>
          cases told with
          | true => rw [parse_told hp ho hd] at h; cases h
          | false =>
            rw [parse_digit hp ho hd] at h
            have := hd
            simp [dig] at this
            exact parseF_ok s f _ _ _ _ _ q h hl h1 h2 (by omega) (by omega)
        | false =>
          rw [parse_letter hp ho hd] at h
          exact parseF_ok s f _ _ _ _ _ q h (by simp [hl]) (h1.snoc hd (ok_width hp ho).2.2) (h2.snoc h3 h4) (by omega) (by omega)
    · rw [parse_end hp] at h
      injection h with h
      subst h
      exact ⟨by simp [hl], h1, h2.snoc h3 h4⟩
theorem parsed_ok {s : ByteArray} {p : Pat} (h : parsed s = some p) : PatOk p := by
  unfold parsed at h
  cases hp : parseF s s.size 0 [] [] 0 false with
  | none => rw [hp] at h; cases h
  | some q =>
    rw [hp] at h
    obtain ⟨h1, h2, h3⟩ := parseF_ok s _ _ _ _ _ _ q hp rfl (fun r h => by cases h) (fun r h => by cases h) (by omega) (by omega)
    simp only [Option.bind_some] at h
    split at h
    · rename_i hg
      injection h with h
      subst h
      have hm : 1 ≤ notDots q.1 := by
        unfold goodB mayB at hg
        simp at hg
        exact hg.1.2.1
      have := notDots_le q.1
      exact ⟨by omega, h1, h2, h3⟩
    · cases h
theorem parsed_len20 {s : ByteArray} {p : Pat} (h : parsed s = some p) : p.1.length ≤ s.size := by
  have key : ∀ (f pos : Nat) (ls ds : List Int) (now : Int) (told : Bool) (q : List Int × List Int), parseF s f pos ls ds now told = some q → q.1.length ≤ ls.length + f := by
    intro f
    induction f with
    | zero => intro pos ls ds now told q h; injection h with h; subst h; simp
    | succ f ih =>
      intro pos ls ds now told q h
      unfold parseF at h
      split at h
      · split at h
        · split at h
          · split at h
            · cases h
            · have := ih _ _ _ _ _ _ h; omega
          · have := ih _ _ _ _ _ _ h; simp at this; omega
        · cases h
      · injection h with h; subst h; simp
  unfold parsed at h
  cases hp : parseF s s.size 0 [] [] 0 false with
  | none => rw [hp] at h; cases h
  | some q =>
    rw [hp] at h
    have := key _ _ _ _ _ _ _ hp
    simp only [Option.bind_some] at h
    split at h
    · injection h with h; subst h; simpa using this
    · cases h
/-- the patterns of texts are all in their form -/
theorem newF_ok : ∀ (ss : List ByteArray) (i : Nat) (L L' : List Pat), newF ss i L = .inl L' → PatsOk L → PatsOk L' ∧ L'.length ≤ L.length + ss.length ∧ ∀ p ∈ L', p ∈ L ∨ ∃ s ∈ ss, p.1.length ≤ s.size
  | [], i, L, L', h, hL => by injection h with h; subst h; exact ⟨hL, by simp, fun p hp => .inl hp⟩
  | s :: t, i, L, L', h, hL => by
    cases hp : parsed s with
    | none => rw [newF_none hp] at h; cases h
    | some p =>
      cases hl : lookP L p.1 with
      | some d => rw [newF_twice hp (by rw [hl]; rfl)] at h; cases h
      | none =>
        rw [newF_next hp hl] at h
        obtain ⟨h1, h2, h3⟩ := newF_ok t (i + 1) _ L' h (hL.snoc (parsed_ok hp) hl)
        refine ⟨h1, by simp at h2 ⊢; omega, fun q hq => ?_⟩
        rcases h3 q hq with h4 | ⟨s', hs', h4⟩
        · rcases List.mem_append.1 h4 with h5 | h5
          · exact .inl h5
          · obtain rfl := List.mem_singleton.1 h5
            exact .inr ⟨s, by simp, parsed_len20 hp⟩
        · exact .inr ⟨s', by simp [hs'], h4⟩
end Go.Proofs.YtgianjnccpbnaaaDoor
