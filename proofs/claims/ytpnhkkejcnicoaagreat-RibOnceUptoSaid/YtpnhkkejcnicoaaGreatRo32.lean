/-
  Texts of a proof, one behind the other (part 33).
-/
import Derived.Test.YtpnhkkejcnicoaaGreatRo3
import Derived.Test.YtpnhkkejcnicoaaGreatRo6
import Derived.Test.YtpnhkkejcnicoaaGreatRo28
import Derived.Test.YtpnhkkejcnicoaaGreatRo31
set_option linter.unusedVariables false
set_option linter.unusedSimpArgs false
namespace Go.Proofs.YtpnhkkejcnicoaaGreat
set_option linter.unusedVariables false
section
open Go.RowKit Go.Sort Go.Lib
set_option maxRecDepth 100000
theorem insNilT (c : Value) (w : World) : Calls Tryz.prog 59 #[.slice none 0 0, .int .i64 0, .int .i64 0, c] w (RetS w (.tuple #[])) := by
  go_enter Tryz.func59, Tryz.ntmps59
  go_wp2_with fail
  refine wp_loop_rounds 1 ?_
  rw [rounds_succ]; go_wp2_with fail
  go_end0
  exact ⟨rfl, rfl⟩
theorem pdqNilT (c : Value) (w : World) (n : Int) : Calls Tryz.prog 38 #[.slice none 0 0, .int .i64 0, .int .i64 0, .int .i64 n, c] w (RetS w (.tuple #[])) := by
  go_enter Tryz.func38, Tryz.ntmps38
  go_wp2_with fail
  refine wp_loop_rounds 1 ?_
  rw [rounds_succ]; go_wp2_with fail
  refine (insNilT c _).mono ?_
  rintro e w' ⟨rfl, rfl⟩
  go_wp2_with fail
  go_end0
  exact ⟨rfl, rfl⟩
theorem sortNilT (c : Value) (w : World) : Calls Tryz.prog 15 #[.slice none 0 0, c] w (RetS w (.tuple #[])) := by
  have hl := fun W => Any.bits_Len (SlLaysF0.n15.bits (P := _) (ρ := _) { Tryz.sortTaken with }) (0 : Int) W (by omega) (by omega)
  go_enter Tryz.func15, Tryz.ntmps15
  go_wp2_with fail
  refine (hl _).mono ?_
  rintro e w' ⟨rfl, rfl⟩
  go_wp2_with fail
  refine (pdqNilT c _ _).mono ?_
  rintro e w' ⟨rfl, rfl⟩
  go_wp2_with fail
  go_end0
  exact ⟨rfl, rfl⟩
end
instance : Inhabited (Nat × Sbj) := ⟨(0, zeroS)⟩
namespace Ab
set_option maxRecDepth 100000
open Go.RowKit Go.Lib
set_option linter.unusedSimpArgs false
attribute [local irreducible] AWp AOps AQ AYield AEff ACall AWk AAny AAt AThen AIn APost NoPanic
def tknD (x : Tkn) : List Dat := iD (x.1 : Int) :: sbjD x.2
theorem tknD_len (x : Tkn) : (tknD x).length = 9 := rfl
def tknT (x : Tkn) : AVal := .agg [.top, .d (uD x.2.p.a), .d (iD x.2.p.b), .top, .top, .top, .top, .top, .top]
theorem over1_A (x y : Tkn) : ACall Tryz.prog 16 [tknT x, tknT y] [] (Just (intA (cmpT x y))) := by
  have hc := cmp_A x.2.p y.2.p
  obtain ⟨c, hcc⟩ : ∃ c, cmpT x y = c := ⟨_, rfl⟩
  have e : cmpP x.2.p y.2.p = c := hcc
  rw [e] at hc
  rw [hcc]
  refine ACall_of tabOk Tryz.func16 rfl Tryz.ntmps16 (congrArg Array.toList Tryz.results16) (by kernel_rfl) rfl ?_
  repeat (first | refine q_Z ?_ | refine R_quiet rfl mixed (by kernel_rfl) ?_ | ((first | apply O_y rfl rfl rfl | apply Q_y rfl rfl rfl); (first | exact q_A | exact q_5 | exact q_B)) | refine q_d ?_ | refine q_a ?_ | refine q_b ?_ | refine q_c ?_ | refine A_ct rfl ?_ | refine A_cf rfl ?_ | refine q_W ?_ | refine O_c rfl rfl rfl rfl rfl hc (fun _ => rfl) ?_)
  exact X_ret rfl ⟨rfl, rfl⟩
abbrev tknB (l : List Tkn) : ABlk := .row 49 9 l.length (l.flatMap tknD)
theorem sortT_A (l : List Tkn) (hn : l.length ≤ 2147483648) (hd : ∀ (i j : Nat) (hi : i < l.length) (hj : j < l.length), cmpT l[i] l[j] = 0 → i = j) :
    ACall Tryz.prog 15 [.row 1000, .fn 16 []] [(1000, tknB l)] (fun c h => c = .tup [] ∧ h = [(1000, tknB (srt cmpT l))]) := by
  have := sortA (β := Tkn) Tryz.sortTaken (f := 15) (el := 49) (k := 9) rfl (by kernel_rfl) (fun W => Tryz.isAgg49 W) (fun W => Tryz.sizeOf49 W) (encD := tknD) tknD_len good_cmpT (eT := tknT) (g := 16) over1_A
    (fun x vs hl hr W => by
      refine .agg _ _ (by simpa [tknT] using hl) fun i c u h1 h2 => ?_
      have h2 : vs[i]? = some u := by simpa using h2
      match i, h1 with
      | 0, h1 => cases h1; exact .top _
      | 1, h1 =>
        cases h1
        obtain ⟨w, Fr, h3⟩ := hr 1 (uD x.2.p.a) u rfl h2
        cases h3 with
        | sc _ h => exact .d _ _ (.sc _ h)
      | 2, h1 =>
        cases h1
        obtain ⟨w, Fr, h3⟩ := hr 2 (iD x.2.p.b) u rfl h2
        cases h3 with
        | sc _ h => exact .d _ _ (.sc _ h)
      | 3, h1 => cases h1; exact .top _
      | 4, h1 => cases h1; exact .top _
      | 5, h1 => cases h1; exact .top _
      | 6, h1 => cases h1; exact .top _
      | 7, h1 => cases h1; exact .top _
      | 8, h1 => cases h1; exact .top _
      | i + 9, h1 => cases h1)
    [.int .i64 0, .int .u32 0, .int .i64 0, .int .i64 0, .int .i64 0, .int .i64 0, .slice none 0 0, .slice none 0 0, .int .u32 0] rfl (by decide) (fun W => by
      refine .agg _ _ rfl fun i c u h1 h2 => ?_
      match i, h1, h2 with
      | 0, h1, h2 => cases h1; exact .top _
      | 1, h1, h2 => cases h1; cases h2; exact sc_rel rfl
      | 2, h1, h2 => cases h1; cases h2; exact sc_rel rfl
      | 3, h1, h2 => cases h1; exact .top _
      | 4, h1, h2 => cases h1; exact .top _
      | 5, h1, h2 => cases h1; exact .top _
      | 6, h1, h2 => cases h1; exact .top _
      | 7, h1, h2 => cases h1; exact .top _
      | 8, h1, h2 => cases h1; exact .top _
      | i + 9, h1, h2 => cases h1) (fun w => (sortNilT _ w).mono fun e w' h => ⟨h.1, h.2.symm⟩) l hn hd
  unfold tknB
  rw [srt_len]
  exact this
end Ab
end Go.Proofs.YtpnhkkejcnicoaaGreat
