/- What the generator of commands draws; that commands are read as they were written. Conditions: bounds on the sizes. -/
import Derived.Test.YtcidbencoebfaaaDoorTxRC
import Derived.Test.YtcidbencoebfaaaDoorPTx10
import Derived.IntWalk
namespace Go.Proofs.YtcidbencoebfaaaDoor.Wd
open Go.RowKit Go.Proofs.YtcidbencoebfaaaDoor.PT Go.Proofs.YtcidbencoebfaaaDoorW.PrintWords Go.Proofs.YtcidbencoebfaaaDoorW.PrintLast Go.Proofs.YtcidbencoebfaaaDoorW.PrintMore
set_option linter.unusedVariables false
set_option linter.unusedSimpArgs false
set_option maxRecDepth 100000
theorem and255 (x : Int) : 0 ≤ Go.bits .and .i64 x 255 ∧ Go.bits .and .i64 x 255 ≤ 255 := by
  have h : (BitVec.ofInt 64 x &&& BitVec.ofInt 64 255).toNat ≤ 255 := by
    rw [BitVec.toNat_and]
    exact Nat.and_le_right
  show 0 ≤ IntKind.i64.wrap ((BitVec.ofInt 64 x &&& BitVec.ofInt 64 255).toNat : Int) ∧ IntKind.i64.wrap ((BitVec.ofInt 64 x &&& BitVec.ofInt 64 255).toNat : Int) ≤ 255
  rw [show IntKind.i64.wrap ((BitVec.ofInt 64 x &&& BitVec.ofInt 64 255).toNat : Int) = ((BitVec.ofInt 64 x &&& BitVec.ofInt 64 255).toNat : Int) from by
    exact IntWalk.i64_in _ (by omega)]
  omega

def At (b : List Int) (i : Int) : Prop := 0 ≤ i ∧ i ≤ b.length ∧ b.length ≤ 1048576
theorem byte_d {b : List Int} {i h : Int} (hi : At b i) : ∃ v i1 h1, spec_l01Byte.f b i h = some (v, i1, h1) ∧ 0 ≤ v ∧ v ≤ 255 ∧ At b i1 := by
  obtain ⟨h1, h2, h3⟩ := hi
  unfold spec_l01Byte.f
  by_cases hl : i < (b.length : Int)
  · rw [if_pos hl, if_pos h1]
    refine ⟨_, _, _, rfl, (and255 _).1, (and255 _).2, ?_⟩
    rw [wr (by omega) (by omega)]
    exact ⟨by omega, by omega, h3⟩
  · rw [if_neg hl]
    exact ⟨_, _, _, rfl, (and255 _).1, (and255 _).2, h1, h2, h3⟩
theorem below_d {b : List Int} {i h : Int} (hi : At b i) (n : Int) (hn : 0 < n) (hm : n ≤ 256) : ∃ v i1 h1, spec_l01Below.f b i h n = some (v, i1, h1) ∧ 0 ≤ v ∧ v < n ∧ At b i1 := by
  unfold spec_l01Below.f
  rw [if_neg (by omega), if_pos hm]
  obtain ⟨v, i1, h1, he, hv0, hv1, ha⟩ := byte_d (h := h) hi
  rw [he]
  simp only [Option.bind_some]
  rw [if_neg (by omega)]
  refine ⟨_, _, _, rfl, Int.tmod_nonneg _ hv0, Int.tmod_lt_of_pos _ hn, ha⟩
theorem new_loop {b : List Int} (hb : b.length ≤ 1048576) : ∀ (d j : Nat) (h : Int), (d = 4000 - j ∧ j ≤ 4000) → ∃ h1, Ev (fun k => spec_l01New.l0 k b h j) (b, 0, h1) := by
  intro d
  induction d with
  | zero =>
    intro j h hj
    refine ⟨h, Ev.step (fun k => spec_l01New.l0.eq_2 _ _ _ k) (evI (fun hc => evN (by omega) (evS rfl)) (fun hc => evS rfl))⟩
  | succ d ih =>
    intro j h hj
    by_cases hlt : j < b.length
    · obtain ⟨h1, hh⟩ := ih (j + 1) (Go.bits .and .i64 (wrap64 ((wrap64 ((wrap64 (h * 163)) + (wrap64 (rd b j)))) + 7)) 1073741823) (by omega)
      refine ⟨h1, Ev.step (fun k => spec_l01New.l0.eq_2 _ _ _ k) (evY (by omega) (evY (by omega) (evY (by omega) ?_)))⟩
      rw [wr (x := (j : Int) + 1) (by omega) (by omega)]
      exact hh
    · exact ⟨h, Ev.step (fun k => spec_l01New.l0.eq_2 _ _ _ k) (evN (by omega) (evS rfl))⟩
theorem new_d {b : List Int} (hb : b.length ≤ 1048576) : ∃ h1, Ev (fun k => spec_l01New.f k b) (b, 0, h1) := by
  unfold spec_l01New.f
  exact new_loop hb 4000 0 _ (by omega)
def okP (p : S32) : Prop := 0 ≤ p.f0 ∧ p.f0 ≤ 5 ∧ 0 ≤ p.f1 ∧ p.f1 ≤ 3
theorem picks_loop {b : List Int} : ∀ (d : Nat) (acc : List S32) (i h : Int), At b i → d ≤ 16 → (∀ p ∈ acc, okP p) → acc.length ≤ 16 - d → ∃ l i1 h1, Ev (fun k => spec_l13Picks.l0 k acc d b i h) (l, i1, h1) ∧ At b i1 ∧ (∀ p ∈ l, okP p) ∧ l.length ≤ 16 := by
  intro d
  induction d with
  | zero =>
    intro acc i h hi hd ha hl
    exact ⟨acc, i, h, Ev.step (fun k => spec_l13Picks.l0.eq_2 _ _ _ _ _ k) (evN (by omega) (evS rfl)), hi, ha, by omega⟩
  | succ d ih =>
    intro acc i h hi hd ha hl
    obtain ⟨v, i1, h1, he1, v0, v1, a1⟩ := below_d (h := h) hi 6 (by decide) (by decide)
    obtain ⟨u, i2, h2, he2, u0, u1, a2⟩ := below_d (h := h1) a1 4 (by decide) (by decide)
    obtain ⟨l, i3, h3, hev, a3, hl3, hn3⟩ := ih (acc ++ [⟨v, u⟩]) i2 h2 a2 (by omega) (by
      intro p hp
      rcases List.mem_append.1 hp with hp | hp
      · exact ha p hp
      · have e : p = ⟨v, u⟩ := by simpa using hp
        subst e; exact ⟨v0, by show v ≤ 5; omega, u0, by show u ≤ 3; omega⟩) (by simp; omega)
    refine ⟨l, i3, h3, Ev.step (fun k => spec_l13Picks.l0.eq_2 _ _ _ _ _ k) (evY (by omega) (evB he1 (evB he2 (evY (by omega) ?_)))), a3, hl3, hn3⟩
    rw [wr (by omega) (by omega), show (((d + 1 : Nat) : Int) - 1) = (d : Int) by omega]
    exact hev
theorem picks_d {b : List Int} {i h : Int} (hi : At b i) : ∃ l i1 h1, Ev (fun k => spec_l13Picks.f k b i h 16) (l, i1, h1) ∧ At b i1 ∧ (∀ p ∈ l, okP p) ∧ l.length ≤ 16 := by
  unfold spec_l13Picks.f
  rw [wr (by omega) (by omega)]
  obtain ⟨v, i1, h1, he1, v0, v1, a1⟩ := below_d (h := h) hi (16 + 1) (by decide) (by decide)
  obtain ⟨n, rfl⟩ : ∃ n : Nat, v = n := ⟨v.toNat, by omega⟩
  obtain ⟨l, i2, h2, hev, a2, h3, h4⟩ := picks_loop n [] i1 h1 a1 (by omega) (by simp) (by simp)
  exact ⟨l, i2, h2, evB he1 hev, a2, h3, h4⟩

def okF (k a c : Int) (ps : List S32) : Prop := 1 ≤ k ∧ k ≤ 8 ∧ 0 ≤ a ∧ a ≤ 1000 ∧ 0 ≤ c ∧ c ≤ 1000 ∧ (¬ (k = 1 ∨ k = 3 ∨ k = 6) → ps = []) ∧ (¬ (k = 2 ∨ k = 4 ∨ k = 5) → a = 0) ∧ (k ≠ 5 → c = 0) ∧ (∀ p ∈ ps, okP p) ∧ ps.length ≤ 16
def okC (x : S27) : Prop := okF x.f0 x.f1 x.f2 x.f3
def tupC (x : S27) (i h : Int) : Int × Int × Int × (List (S32)) × Int × Int := (x.f0, x.f1, x.f2, x.f3, i, h)
theorem cmd_d {b : List Int} {i h : Int} (hi : At b i) : ∃ x i1 h1, Ev (fun k => spec_l27Cmd.f k b i h) (tupC x i1 h1) ∧ At b i1 ∧ okC x := by
  obtain ⟨v, i1, h1, he1, v0, v1, a1⟩ := below_d (h := h) hi 8 (by decide) (by decide)
  obtain ⟨K, hK⟩ : ∃ K, 1 + v = K := ⟨_, rfl⟩
  have hw : wrap64 (1 + v) = K := by rw [hK]; exact wr (by omega) (by omega)
  unfold spec_l27Cmd.f
  have mkx : ∀ (a c : Int) (ps : List S32) (i2 h2 : Int), At b i2 → okF K a c ps → ∀ {g : Nat → Option (Int × Int × Int × (List (S32)) × Int × Int)}, Ev g (K, a, c, ps, i2, h2) → ∃ x i1 h1, Ev g (tupC x i1 h1) ∧ At b i1 ∧ okC x := fun a c ps i2 h2 ha ho g hg => ⟨⟨K, a, c, ps⟩, i2, h2, hg, ha, ho⟩
  by_cases hp : K = 1 ∨ K = 3 ∨ K = 6
  · obtain ⟨l, i2, h2, hev, a2, hl, hn⟩ := picks_d (h := h1) a1
    have hpk : spec_l27HasPicks.f K = some true := by
      unfold spec_l27HasPicks.f
      rcases hp with rfl | rfl | rfl <;> decide
    refine mkx 0 0 l i2 h2 a2 ⟨by omega, by omega, by omega, by omega, by omega, by omega, fun hn => absurd hp hn, fun _ => rfl, fun _ => rfl, hl, hn⟩ ?_
    refine evB he1 ?_
    dsimp only
    rw [hw]
    exact evB hpk (evY rfl (Ev.bind hev (evN (by omega) (evS rfl))))
  · have hpk : spec_l27HasPicks.f K = some false := by
      unfold spec_l27HasPicks.f
      rw [if_neg (by omega), if_neg (by omega)]
      have : (K == 6) = false := by simp; omega
      rw [this]
    by_cases h2 : K = 2
    · obtain ⟨u, i2, h2', he2, u0, u1, a2⟩ := below_d (h := h1) a1 30 (by decide) (by decide)
      refine mkx u 0 [] i2 h2' a2 ⟨by omega, by omega, by omega, by omega, by omega, by omega, fun _ => rfl, fun hn => absurd (.inl h2) hn, fun _ => rfl, by simp, by simp⟩ ?_
      refine evB he1 ?_
      dsimp only
      rw [hw]
      exact evB hpk (evN (by decide) (evY h2 (evB he2 (evN (by omega) (evS rfl)))))
    · by_cases h4 : K = 4
      · obtain ⟨u, i2, h2', he2, u0, u1, a2⟩ := below_d (h := h1) a1 90 (by decide) (by decide)
        refine mkx u 0 [] i2 h2' a2 ⟨by omega, by omega, by omega, by omega, by omega, by omega, fun _ => rfl, fun hn => absurd (.inr (.inl h4)) hn, fun _ => rfl, by simp, by simp⟩ ?_
        refine evB he1 ?_
        dsimp only
        rw [hw]
        refine evB hpk (evN (by decide) (evN h2 (evY h4 (Ev.step (fun k => spec_l27Cmd.j0.eq_2 _ _ _ _ _ _ _ k) (evY rfl (evB he2 (evN (by omega) (evS rfl))))))))
      · by_cases h5 : K = 5
        · obtain ⟨u, i2, h2', he2, u0, u1, a2⟩ := below_d (h := h1) a1 90 (by decide) (by decide)
          obtain ⟨z, i3, h3', he3, z0, z1, a3⟩ := below_d (h := h2') a2 255 (by decide) (by decide)
          refine mkx u (1 + z) [] i3 h3' a3 ⟨by omega, by omega, by omega, by omega, by omega, by omega, fun _ => rfl, fun hn => absurd (.inr (.inr h5)) hn, fun hn => absurd h5 hn, by simp, by simp⟩ ?_
          refine evB he1 ?_
          dsimp only
          rw [hw]
          refine evB hpk (evN (by decide) (evN h2 (evN h4 (Ev.step (fun k => spec_l27Cmd.j0.eq_2 _ _ _ _ _ _ _ k) (evY (by simp [h5]) (evB he2 (evY h5 (evB he3 (evS ?_)))))))))
          rw [wr (by omega) (by omega)]
        · refine mkx 0 0 [] i1 h1 a1 ⟨by omega, by omega, by omega, by omega, by omega, by omega, fun _ => rfl, fun _ => rfl, fun _ => rfl, by simp, by simp⟩ ?_
          refine evB he1 ?_
          dsimp only
          rw [hw]
          exact evB hpk (evN (by decide) (evN h2 (evN h4 (Ev.step (fun k => spec_l27Cmd.j0.eq_2 _ _ _ _ _ _ _ k) (evN (by simpa using h5) (evN h5 (evS rfl)))))))
theorem cmds_loop {b : List Int} : ∀ (d : Nat) (acc : List S27) (i h : Int), At b i → d ≤ 6 → (∀ p ∈ acc, okC p) → acc.length ≤ 6 - d → ∃ l, Ev (fun k => spec_MakeCmds.l0 k acc d b i h) l ∧ (∀ p ∈ l, okC p) ∧ l.length ≤ 6 := by
  intro d
  induction d with
  | zero =>
    intro acc i h hi hd ha hl
    exact ⟨acc, Ev.step (fun k => spec_MakeCmds.l0.eq_2 _ _ _ _ _ k) (evN (by omega) (evS rfl)), ha, by omega⟩
  | succ d ih =>
    intro acc i h hi hd ha hl
    obtain ⟨x, i1, h1, he1, a1, hx⟩ := cmd_d (h := h) hi
    obtain ⟨l, hev, hl3, hn3⟩ := ih (acc ++ [x]) i1 h1 a1 (by omega) (by
      intro p hp
      rcases List.mem_append.1 hp with hp | hp
      · exact ha p hp
      · have e : p = x := by simpa using hp
        subst e; exact hx) (by simp; omega)
    refine ⟨l, Ev.step (fun k => spec_MakeCmds.l0.eq_2 _ _ _ _ _ k) (evY (by omega) (Ev.bind he1 (evY (by omega) ?_))), hl3, hn3⟩
    rw [wr (by omega) (by omega), show (((d + 1 : Nat) : Int) - 1) = (d : Int) by omega]
    exact hev
theorem make_d {b : List Int} (hb : b.length ≤ 1048576) : ∃ l, Ev (fun k => spec_MakeCmds.f k b) l ∧ (∀ p ∈ l, okC p) ∧ l.length ≤ 6 := by
  unfold spec_MakeCmds.f
  obtain ⟨h1, hn⟩ := new_d hb
  obtain ⟨v, i1, h2, he1, v0, v1, a1⟩ := below_d (b := b) (i := 0) (h := h1) ⟨by omega, by omega, hb⟩ 7 (by decide) (by decide)
  obtain ⟨n, rfl⟩ : ∃ n : Nat, v = n := ⟨v.toNat, by omega⟩
  obtain ⟨l, hev, h3, h4⟩ := cmds_loop n [] i1 h2 a1 (by omega) (by simp) (by simp)
  exact ⟨l, Ev.bind hn (evB he1 hev), h3, h4⟩
end Go.Proofs.YtcidbencoebfaaaDoor.Wd

