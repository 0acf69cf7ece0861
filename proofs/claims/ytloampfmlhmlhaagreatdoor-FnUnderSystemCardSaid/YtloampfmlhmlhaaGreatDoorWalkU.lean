/- The program's SystemOf. -/
import Derived.Test.YtloampfmlhmlhaaGreatDoorPlainU
import Derived.Test.YtloampfmlhmlhaaGreatDoorWalkV
namespace Go.Proofs.YtloampfmlhmlhaaGreatDoor
set_option linter.unusedSimpArgs false
set_option linter.unusedVariables false
open Go Go.RowKit
set_option maxHeartbeats 1600000
set_option maxRecDepth 100000

def o1 (x : Int) : Int := IntKind.u64.wrap (bits .and .u64 (x / 2) 6148914691236517205 + bits .and .u64 x 6148914691236517205)
def o2 (x : Int) : Int := IntKind.u64.wrap (bits .and .u64 (x / 4) 3689348814741910323 + bits .and .u64 x 3689348814741910323)
def o3 (x : Int) : Int := bits .and .u64 (IntKind.u64.wrap (x / 16 + x)) 1085102592571150095
def o4 (x : Int) : Int := IntKind.u64.wrap (x + x / 256)
def o5 (x : Int) : Int := IntKind.u64.wrap (x + x / 65536)
def o6 (x : Int) : Int := IntKind.u64.wrap (x + x / 4294967296)
def oc64 (x : Int) : Int := bits .and .i64 (wrap64 (o6 (o5 (o4 (o3 (o2 (o1 x))))))) 127
theorem oc64_eq : ∀ a : Fin 64, ∀ b : Fin 64, oc64 ((a.val * 64 + b.val : Nat) : Int) = (pop12 (a.val * 64 + b.val) : Int) := by decide +kernel
theorem oc64_pop {x : Nat} (hx : x < 4096) : oc64 (x : Int) = (pop12 x : Int) := by
  have := oc64_eq ⟨x / 64, by omega⟩ ⟨x % 64, by omega⟩
  simp only [] at this
  rwa [show x / 64 * 64 + x % 64 = x by omega] at this
theorem oc64_c (x : Nat) (w : World) (hx : x < 4096) :
    Calls Tryz.prog 201 #[.int .u64 x] w (Same (.int .i64 (pop12 x)) w) := by
  have hx' : (x : Int) < 18446744073709551616 := by omega
  have HO := Lib.hid (oc64_pop hx)
  go_enter Tryz.func201, Tryz.ntmps201
  go_wp2_with fail
  go_ret
  refine Same.mk ?_
  conv => lhs; whnf
  exact congrArg (Value.int .i64) HO.out
theorem oc_c (x : Nat) (w : World) (hx : x < 4096) :
    Calls Tryz.prog 143 #[.int .u64 x] w (Same (.int .i64 (pop12 x)) w) := by
  go_enter Tryz.func143, Tryz.ntmps143
  go_wp2_with (go_at_call 201; refine (oc64_c _ _ hx).mono ?_; rintro e w' ⟨rfl, rfl⟩)
  go_ret
  exact Same.mk rfl
theorem oc_x {X : Int} {x : Nat} (hX : X = (x : Int)) (w : World) (hx : x < 4096) :
    Calls Tryz.prog 143 #[.int .u64 X] w (Same (.int .i64 (pop12 x)) w) := hX ▸ oc_c x w hx
theorem u64_small (x : Nat) (hx : x < 4096) : IntKind.u64.wrap (x : Int) = (x : Int) := by
  rw [IntKind.wrap_u64]; omega
theorem rank_key (s k : Nat) (hs : s < 4096) (hk : k ≤ 12) : IntKind.u64.wrap (bits .and .i64 (s : Int) (wrap64 (wrap64 (2 ^ k) - 1))) = ((s % 2 ^ k : Nat) : Int) := by
  have h1 : 1 ≤ 2 ^ k := Nat.one_le_two_pow
  have h2 : 2 ^ k ≤ 4096 := by rw [show (4096 : Nat) = 2 ^ 12 from rfl]; exact Nat.pow_le_pow_right (by omega) hk
  rw [wrap_pow k (by omega)]
  obtain ⟨p, hp⟩ : ∃ p, 2 ^ k = p := ⟨_, rfl⟩
  have h4 : s &&& (p - 1) = s % p := by rw [← hp]; exact Nat.and_two_pow_sub_one_eq_mod ..
  rw [hp] at h1 h2 ⊢
  have h3 : wrap64 ((p : Int) - 1) = ((p - 1 : Nat) : Int) := by
    rw [show (p : Int) - 1 = ((p - 1 : Nat) : Int) by omega]
    exact IntWalk.wrap64_in _ (by omega)
  rw [h3, i64_and_nat s (p - 1) (by omega) (by omega), h4]
  exact u64_small _ (Nat.lt_of_le_of_lt (Nat.mod_le _ _) hs)
theorem rank_c (s k : Nat) (w : World) (hs : s < 4096) (hk : k ≤ 12) :
    Calls Tryz.prog 65 #[.int .i64 s, .int .i64 k] w (Same (.int .i64 (pop12 (s % 2 ^ k))) w) := by
  have HK := Lib.hid (rank_key s k hs hk)
  have hlt : s % 2 ^ k < 4096 := Nat.lt_of_le_of_lt (Nat.mod_le _ _) hs
  go_enter Tryz.func65, Tryz.ntmps65
  go_wp2_with fail
  refine (oc_x HK.out _ hlt).mono ?_
  rintro e w' ⟨rfl, rfl⟩
  go_wp2_with fail
  go_ret
  exact Same.mk rfl
end Go.Proofs.YtloampfmlhmlhaaGreatDoor
