/- Periods: the examples of the chapter: plain. -/
import Derived.Test.YtpkhannkbafimaaGreatRG
namespace Go.Proofs.YtpkhannkbafimaaGreat
open Go.RowKit
instance (b : Bk) : Decidable (smB b) := by unfold smB; infer_instance
theorem okB_sm {b : Bk} (h : smB b) : okB b := ⟨⟨Nat.le_trans h.1.1 (by decide), Nat.le_trans h.1.2.1 (by decide)⟩, Nat.le_trans h.1.2.2 (by decide), fun p hp => Nat.le_trans (h.2 p hp) (by decide)⟩
def rd (s t : Int) : Ride := ⟨1, s, 7, s, 1, 1, t⟩
def bk1 : Bk := ⟨[⟨1, 0, 1000, false, []⟩], [], []⟩
def bk2 : Bk := ⟨[⟨1, 0, 1000, false, []⟩, ⟨2, 1000, 2000, false, []⟩], [], []⟩
def bk3 : Bk := ⟨[⟨1, 0, 1000, false, []⟩, ⟨2, 1000, 2000, false, []⟩], [], [⟨1, rd 1 999⟩]⟩
def duX : List Share := [⟨1, 60⟩, ⟨2, 40⟩]
def reX : List Share := [⟨1, 100⟩]
def bk4 : Bk := ⟨[⟨1, 0, 1000, true, duX⟩, ⟨2, 1000, 2000, false, []⟩], [⟨101, 1, 2, 40⟩], [⟨1, rd 1 999⟩]⟩
def bk5 : Bk := ⟨[⟨1, 0, 1000, true, duX⟩, ⟨2, 1000, 2000, false, []⟩], [⟨101, 1, 2, 40⟩], [⟨1, rd 1 999⟩, ⟨2, rd 2 500⟩]⟩
theorem x1 : beginB bk0 1000 = bk1 ∧ beginE bk0 1000 = 0 := by decide +kernel
theorem x2 : beginB bk1 2000 = bk2 ∧ beginE bk1 2000 = 0 := by decide +kernel
theorem x3 : entX bk2 (rd 1 999) = .tup [aB bk3, I 1, I 0] := by
  have h1 : entB bk2 (rd 1 999) = bk3 := by decide +kernel
  have h2 : entN bk2 (rd 1 999) = 1 := by decide +kernel
  have h3 : entE bk2 (rd 1 999) = 0 := by decide +kernel
  unfold entX; rw [h1, h2, h3]
theorem x4t : cloT duX reX = [⟨1, 2, 40⟩] := by
  have h : netO (nzl (posL duX reX)) = [⟨1, 2, 40⟩] := by decide +kernel
  unfold cloT netF
  rw [h, List.mergeSort_singleton]
theorem x4 : clsX bk3 1 duX reX = .tup [aB bk4, I 0] := by
  have hp : postAll 1 0 [⟨1, 2, 40⟩] bk3.po = ([⟨101, 1, 2, 40⟩], 0) := by decide +kernel
  have h1 : clsE bk3 1 duX reX = 0 := by
    unfold clsE
    rw [x4t, hp]
    decide +kernel
  have h2 : clsB bk3 1 duX reX = bk4 := by
    unfold clsB
    rw [h1, x4t, hp]
    decide +kernel
  unfold clsX; rw [h1, h2]
theorem x5 : entX bk4 (rd 2 500) = .tup [aB bk5, I 2, I 0] := by
  have h1 : entB bk4 (rd 2 500) = bk5 := by decide +kernel
  have h2 : entN bk4 (rd 2 500) = 2 := by decide +kernel
  have h3 : entE bk4 (rd 2 500) = 0 := by decide +kernel
  unfold entX; rw [h1, h2, h3]
theorem x6 : entX bk5 (rd 2 501) = .tup [aB bk0, I 0, I 15] := entX_err (by decide +kernel) (by decide)
theorem x7 : clsX bk2 2 [] [] = .tup [aB bk0, I 10] := clsX_err (by decide +kernel) (by decide)
theorem x8 : entX bk2 (rd 3 2000) = .tup [aB bk0, I 0, I 8] := entX_err (by decide +kernel) (by decide)
theorem po4 : bk4.po = [⟨101, 1, 2, 40⟩] := rfl
theorem f0 : firstC bk0.ps = 0 := by decide +kernel
theorem f2 : firstC bk2.ps = 1 := by decide +kernel
theorem f4 : firstC bk4.ps = 2 := by decide +kernel
theorem r5 : rightB bk5 = 0 := by decide +kernel
theorem ri1 : ridesOf bk5 1 = [rd 1 999] := by
  have h : filtR bk5.rs 1 = [rd 1 999] := by decide +kernel
  unfold ridesOf; rw [h, List.mergeSort_singleton]
theorem ri2 : ridesOf bk5 2 = [rd 2 500] := by
  have h : filtR bk5.rs 2 = [rd 2 500] := by decide +kernel
  unfold ridesOf; rw [h, List.mergeSort_singleton]
instance (b : Bk) : Decidable (entP b) := by unfold entP; infer_instance
instance (b : Bk) : Decidable (ridP b) := by unfold ridP; infer_instance
theorem e2p : entP bk2 := by decide +kernel
theorem e4p : entP bk4 := by decide +kernel
theorem e5p : entP bk5 := by decide +kernel
theorem rp5 : ridP bk5 := by decide +kernel
theorem c3p : clsP bk3 duX reX := ⟨⟨by decide +kernel, by decide +kernel⟩, by decide +kernel, by decide +kernel⟩
theorem c2p : clsP bk2 [] [] := ⟨⟨by decide +kernel, by decide +kernel⟩, by decide +kernel, by decide +kernel⟩
theorem s0 : smB bk0 := by decide +kernel
theorem s1 : smB bk1 := by decide +kernel
theorem s2 : smB bk2 := by decide +kernel
theorem s4 : smB bk4 := by decide +kernel
theorem s5 : smB bk5 := by decide +kernel

end Go.Proofs.YtpkhannkbafimaaGreat
