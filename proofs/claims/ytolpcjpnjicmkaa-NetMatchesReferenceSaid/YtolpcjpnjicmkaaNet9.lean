/-
  Net: a network as a thing of its own among others; a step; a row of answers; what was played.
-/
import Derived.Test.YtolpcjpnjicmkaaFew
set_option linter.unusedSimpArgs false
set_option linter.unusedVariables false
namespace Go.Proofs.Ytolpcjpnjicmkaa
open Go.RowKit Go.CH
open Go.ChangeMaps (setBlock)

def NetO (m : NetM) (p : Nat) : Own := fun w F => Net w F m p
theorem netO_ok {m : NetM} {p : Nat} : (NetO m p).Ok := by
  refine ⟨fun h i hi => ?_, fun {w w' F} h hk => ?_⟩
  · obtain ⟨_, _, _, _, _, _, _, _, hh⟩ := h; exact hh.lt i hi
  · obtain ⟨bq, bc, lq, lc, eq, ec, kq, kc, h⟩ := h
    have hl : ∀ i, F i → i < w'.heap.size := fun i hi => by
      have h1 := h.lt i hi
      have h2 := hk i hi
      rw [Array.getElem?_eq_getElem h1] at h2
      exact (Array.getElem?_eq_some_iff.1 h2).1
    refine ⟨bq, bc, lq, lc, eq, ec, kq, kc, (hk p h.Fp).trans h.blk, (hk bq h.Fq).trans h.mq, (hk bc h.Fc).trans h.mc, h.hq, h.hc, h.ne, h.Fp, h.Fq, h.Fc, ⟨h.inn.cut, fun k => ?_, h.inn.len, h.inn.apart, h.inn.rowF⟩, hl⟩
    obtain ⟨h1, h2⟩ := h.inn.row k
    refine ⟨h1, ?_⟩
    rcases h2 with h2 | ⟨gg, cap, cur, hv, h3, h4, h5⟩
    · exact .inl h2
    · exact .inr ⟨gg, cap, cur, hv, h3, (hk gg (h.inn.rowF k gg (by rw [hv]; rfl))).trans h4, h5⟩

theorem do_post {m : NetM} {p : Nat} {W : World} {F : Nat → Prop} (h : NetO m p W F) (x : Step) :
    Calls Try.prog 17 #[.pointer (some ⟨p, 0, none⟩), stepV x] W (fun e W' => e = .returned (resV (doR m x)) ∧ Post W F (NetO (doM m x) p) W') := by
  have hg : StG 0 W (fun i => i < W.heap.size ∧ ¬ F i) m p W := ⟨F, h, fun i hi => ⟨Nat.zero_le _, fun hn => hn.2 hi⟩, (Below.refl W.heap.size _).mono (Nat.zero_le _)⟩
  refine (do_any hg (Nat.zero_le _) (fun i hi => hi.1) x).mono fun e W' hp => ?_
  obtain ⟨he, ⟨F', h1, h2, _⟩, hM⟩ := hp
  refine ⟨he, F', h1, hM.mono (fun i hi hn => ?_), fun i hi => ?_⟩
  · by_cases hf : F i
    · exact hf
    · exact (hn ⟨hi, hf⟩).elim
  · have h3 := netO_ok.lt (O := NetO _ _) h1 i hi
    by_cases hf : F i
    · exact .inl hf
    · refine .inr ⟨?_, h3⟩
      rcases Nat.lt_or_ge i W.heap.size with h4 | h4
      · exact ((h2 i hi).2 ⟨h4, hf⟩).elim
      · exact h4
theorem waiting_post {m : NetM} {p : Nat} {W : World} {F : Nat → Prop} (h : NetO m p W F) (a b : Int) {l : List ByteArray} (hl : waitM m a b = l) :
    Calls Try.prog 14 #[.pointer (some ⟨p, 0, none⟩), .int .i64 a, .int .i64 b] W (ListRet W l) := by
  subst hl; exact waiting_any h a b
theorem new_post (n : Int) (w : World) (h1 : 1 ≤ n) (h2 : n ≤ 8) :
    Calls Try.prog 10 #[.int .i64 n] w fun e w' => ∃ p, e = .returned (.tuple #[.pointer (some ⟨p, 0, none⟩), .int .i64 0]) ∧ Post w (fun _ => False) (NetO ⟨n, fun _ => [], fun _ => false⟩ p) w' :=
  (new_yes n w h1 h2).mono fun e w' ⟨p, he, hN, hb⟩ => ⟨p, he, _, hN, Mod.of_below hb, fun i hi => .inr hi⟩

/-! ### What was played -/
def stM (m : NetM) (l : List Step) : NetM := l.foldl doM m
def play (m : NetM) : List Step → List (Step × Res)
  | [] => []
  | x :: l => (x, doR m x) :: play (doM m x) l
theorem stM_snoc (m : NetM) (l : List Step) (x : Step) : stM m (l ++ [x]) = doM (stM m l) x := by simp [stM]
theorem play_snoc (m : NetM) : ∀ (l : List Step) (x : Step), play m (l ++ [x]) = play m l ++ [(x, doR (stM m l) x)]
  | [], x => rfl
  | y :: l, x => by simp [play, play_snoc (doM m y) l x, stM]
theorem play_len (m : NetM) : ∀ (l : List Step), (play m l).length = l.length
  | [] => rfl
  | y :: l => by simp [play, play_len (doM m y) l]
def resC (l : List (Step × Res)) : List Value := l.flatMap fun y => resL y.2
theorem resC_len (l : List (Step × Res)) : (resC l).length = l.length * 3 := by
  induction l with
  | nil => rfl
  | cons y l ih => show (resL y.2 ++ resC l).length = _; rw [List.length_append, ih]; simp [resL]; omega
theorem resC_one (l : List (Step × Res)) : ∀ u ∈ resC l, u.oneCell' = true := by
  intro u hu
  obtain ⟨y, _, hy⟩ := List.mem_flatMap.1 hu
  simp [resL] at hy
  rcases hy with rfl | rfl | rfl <;> rfl
theorem resC_get {l : List (Step × Res)} {k : Nat} (h : k < l.length) (j : Nat) (hj : j < 3) : (resC l)[k * 3 + j]? = (resL l[k].2)[j]? := by
  induction l generalizing k with
  | nil => simp at h
  | cons x l ih =>
    show (resL x.2 ++ resC l)[k * 3 + j]? = _
    cases k with
    | zero => rw [List.getElem?_append_left (by simp [resL]; omega)]; simp
    | succ k =>
      rw [List.getElem?_append_right (by simp [resL]; omega), show (k + 1) * 3 + j - (resL x.2).length = k * 3 + j by simp [resL]; omega, ih (by simpa using h)]
      simp
/-- The cells of one answer. -/
structure ResAt (w : World) (b o : Nat) (r : Res) : Prop where
  c0 : w.cell? ⟨b, o, none⟩ = some (.int .i64 r.err)
  c1 : w.cell? ⟨b, o + 1, none⟩ = some (.string r.text)
  c2 : w.cell? ⟨b, o + 2, none⟩ = some (.bool r.ok)
theorem resAt {w : World} {g n c base : Nat} {l : List (Step × Res)} (ho : w.ownsRow base 42 3 (.slice (some ⟨g, 0, none⟩) n c) n (resC l)) {k : Nat} (hk : k < l.length) : ResAt w g (k * 3) l[k].2 := by
  have h1 : ∀ j (hj : j < 3) u, (resL l[k].2)[j]? = some u → w.cell? ⟨g, k * 3 + j, none⟩ = some u := fun j hj u hu => by
    have := ho.cells rfl _ _ ((resC_get hk j hj).trans hu); rwa [Addr.add_zero_] at this
  exact ⟨h1 0 (by omega) _ rfl, h1 1 (by omega) _ rfl, h1 2 (by omega) _ rfl⟩
theorem resOk : SliceOk Try.prog 51 42 (.agg #[.int .i64 0, .string ⟨#[]⟩, .bool false]) 3 32 := ⟨Try.underlying51, by kernel_rfl, rfl, by decide⟩
theorem Src.res {w : World} {g : Nat} {r : Res} {t : TypeId} (h : w.heap[g]? = some (.cells #[.int .i64 r.err, .string r.text, .bool r.ok] t (0, 0))) : Src w (some ⟨g, 0, none⟩) 1 3 (resL r) :=
  ⟨rfl, by simp [resL]; exact ⟨rfl, rfl, rfl⟩, fun _ => ⟨_, rfl, fun j u hu => by
    rw [Addr.add_zero_]
    match j, hu with
    | 0, hu => simp [resL] at hu; subst hu; simp [World.cell?, h]
    | 1, hu => simp [resL] at hu; subst hu; simp [World.cell?, h]
    | 2, hu => simp [resL] at hu; subst hu; simp [World.cell?, h]
    | j + 3, hu => simp [resL] at hu⟩⟩
end Go.Proofs.Ytolpcjpnjicmkaa
