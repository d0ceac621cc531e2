/- A text that a program of this session wrote (wip/qprint.py, over the kit's printer): Lean functions with the same answers as Go functions of the program, and proofs that the calls come to these answers; where a function is named in wip/ext, its definition and proof were written by hand. -/
import Derived.Test.YtbiijcehgiibeaaQ0
import Derived.Test.YtbiijcehgiibeaaQe23
import Derived.Test.YtbiijcehgiibeaaQf27
import Derived.Test.YtbiijcehgiibeaaQf31
import Derived.Test.YtbiijcehgiibeaaQf24
import Derived.Test.YtbiijcehgiibeaaQf40
namespace Go.Proofs.Ytbiijcehgiibeaa.Q
open Go.RowKit Go.Proofs.YtbiijcehgiibeaaW.PrintWords Go.Proofs.YtbiijcehgiibeaaW.PrintLast Go.Proofs.YtbiijcehgiibeaaW.PrintMore
attribute [local go_sem] max2_int min2_int max_two min_two max_three min_three max_four min_four   -- for this text's walks alone
set_option linter.unusedVariables false
set_option linter.unusedSimpArgs false

attribute [local go_sem high] eqA23
/-! ### reevelaw02_SealParts: function 9 -/
def reevelaw02_SealParts.f (l0 : List Int) (l1 : List Int) (l2 : List Int) : Option (Bool) := (reevelaw02_awake.f).bind fun t344 => ((seal_Start.f).bind fun bt345 => ((seal_Add.f bt345.1 bt345.2 l0).bind fun bt347 => ((seal_Start.f).bind fun bt351 => ((seal_Add.f bt351.1 bt351.2 l1).bind fun bt353 => ((seal_Start.f).bind fun bt357 => ((seal_Add.f bt357.1 bt357.2 l2).bind fun bt359 => ((seal_Join.f bt347.1 bt347.2.1 bt353.1 bt353.2.1 (l1.length : Int)).bind fun bt363 => ((seal_Join.f bt363.1 bt363.2.1 bt359.1 bt359.2.1 (l2.length : Int)).bind fun bt367 => ((seal_Join.f bt353.1 bt353.2.1 bt359.1 bt359.2.1 (l2.length : Int)).bind fun bt371 => ((seal_Join.f bt347.1 bt347.2.1 bt371.1 bt371.2.1 (wrap64 ((l1.length : Int) + (l2.length : Int)))).bind fun bt375 => ((seal_Start.f).bind fun bt379 => ((seal_Join.f bt347.1 bt347.2.1 bt379.1 bt379.2 0).bind fun bt381 => (if t344 = true then (if bt363.2.2 = 0 then (if bt367.2.2 = 0 then (if bt371.2.2 = 0 then (if bt375.2.2 = 0 then (if bt381.2.2 = 0 then (if (bt367.1 == bt375.1 && (bt367.2.1 == bt375.2.1)) = true then (some (bt381.1 == bt347.1 && (bt381.2.1 == bt347.2.1))) else (none)) else (none)) else (none)) else (none)) else (none)) else (none)) else (none))))))))))))))
def reevelaw02_SealParts.T9 : Bool × List (List Nat × List Nat) := (true, [([], []), ([], []), ([0, 1, 1], [0, 1]), ([2], [2]), ([3], [3]), ([3], [3]), ([], []), ([6, 4, 2, 0, 1, 2, 3, 4, 6], [4, 6]), ([5, 7, 0, 1, 2, 3, 4, 5, 6, 7], [5])])
def reevelaw02_SealParts.B9 : List Nat := [0, 0, 3, 7, 15, 15, 0, 95, 255]
theorem reevelaw02_SealParts.tab9 : rtab .any (opsOf Try.f9 9) = reevelaw02_SealParts.T9 := by kernel_rfl
theorem reevelaw02_SealParts.bits9 : waitsOk reevelaw02_SealParts.T9.2 reevelaw02_SealParts.B9 = true := by kernel_rfl
set_option maxHeartbeats 8000000 in
set_option maxRecDepth 100000 in
theorem reevelaw02_SealParts.calls (A0 : Option Addr) (c0 : Nat) (l0 : List Int) (A1 : Option Addr) (c1 : Nat) (l1 : List Int) (A2 : Option Addr) (c2 : Nat) (l2 : List Int) (r : Bool) (w : World) (hr0 : Kd.C (Kd.int .u8) w A0 l0.length l0) (hc0 : l0.length ≤ c0) (hr1 : Kd.C (Kd.int .u8) w A1 l1.length l1) (hc1 : l1.length ≤ c1) (hr2 : Kd.C (Kd.int .u8) w A2 l2.length l2) (hc2 : l2.length ≤ c2) (h : reevelaw02_SealParts.f l0 l1 l2 = some r) :
    Calls Try.prog 9 #[.slice A0 l0.length c0, .slice A1 l1.length c1, .slice A2 l2.length c2] w fun e w' => e = .returned (.bool r) ∧ Below w.heap.size w w' := by
  have hu23 := Try.underlying23
  have HR0 := Aside0.mk hr0
  have HC0 := Aside0.mk hc0
  clear hr0 hc0
  have HR1 := Aside0.mk hr1
  have HC1 := Aside0.mk hc1
  clear hr1 hc1
  have HR2 := Aside0.mk hr2
  have HC2 := Aside0.mk hc2
  clear hr2 hc2
  have HB := Aside0.mk (Below.refl w.heap.size w)
  have H : ((reevelaw02_awake.f).bind fun t344 => ((seal_Start.f).bind fun bt345 => ((seal_Add.f bt345.1 bt345.2 l0).bind fun bt347 => ((seal_Start.f).bind fun bt351 => ((seal_Add.f bt351.1 bt351.2 l1).bind fun bt353 => ((seal_Start.f).bind fun bt357 => ((seal_Add.f bt357.1 bt357.2 l2).bind fun bt359 => ((seal_Join.f bt347.1 bt347.2.1 bt353.1 bt353.2.1 (l1.length : Int)).bind fun bt363 => ((seal_Join.f bt363.1 bt363.2.1 bt359.1 bt359.2.1 (l2.length : Int)).bind fun bt367 => ((seal_Join.f bt353.1 bt353.2.1 bt359.1 bt359.2.1 (l2.length : Int)).bind fun bt371 => ((seal_Join.f bt347.1 bt347.2.1 bt371.1 bt371.2.1 (wrap64 ((l1.length : Int) + (l2.length : Int)))).bind fun bt375 => ((seal_Start.f).bind fun bt379 => ((seal_Join.f bt347.1 bt347.2.1 bt379.1 bt379.2 0).bind fun bt381 => (if t344 = true then (if bt363.2.2 = 0 then (if bt367.2.2 = 0 then (if bt371.2.2 = 0 then (if bt375.2.2 = 0 then (if bt381.2.2 = 0 then (if (bt367.1 == bt375.1 && (bt367.2.1 == bt375.2.1)) = true then (some (bt381.1 == bt347.1 && (bt381.2.1 == bt347.2.1))) else (none)) else (none)) else (none)) else (none)) else (none)) else (none)) else (none))))))))))))))) = some r := h
  clear h
  replace H := Option.bind_eq_some_iff.mp H
  obtain ⟨t344, A40, H⟩ := H
  replace H : ((seal_Start.f).bind fun bt345 => ((seal_Add.f bt345.1 bt345.2 l0).bind fun bt347 => ((seal_Start.f).bind fun bt351 => ((seal_Add.f bt351.1 bt351.2 l1).bind fun bt353 => ((seal_Start.f).bind fun bt357 => ((seal_Add.f bt357.1 bt357.2 l2).bind fun bt359 => ((seal_Join.f bt347.1 bt347.2.1 bt353.1 bt353.2.1 (l1.length : Int)).bind fun bt363 => ((seal_Join.f bt363.1 bt363.2.1 bt359.1 bt359.2.1 (l2.length : Int)).bind fun bt367 => ((seal_Join.f bt353.1 bt353.2.1 bt359.1 bt359.2.1 (l2.length : Int)).bind fun bt371 => ((seal_Join.f bt347.1 bt347.2.1 bt371.1 bt371.2.1 (wrap64 ((l1.length : Int) + (l2.length : Int)))).bind fun bt375 => ((seal_Start.f).bind fun bt379 => ((seal_Join.f bt347.1 bt347.2.1 bt379.1 bt379.2 0).bind fun bt381 => (if t344 = true then (if bt363.2.2 = 0 then (if bt367.2.2 = 0 then (if bt371.2.2 = 0 then (if bt375.2.2 = 0 then (if bt381.2.2 = 0 then (if (bt367.1 == bt375.1 && (bt367.2.1 == bt375.2.1)) = true then (some (bt381.1 == bt347.1 && (bt381.2.1 == bt347.2.1))) else (none)) else (none)) else (none)) else (none)) else (none)) else (none)) else (none)))))))))))))) = some r := H
  have A4 := Aside0.mk A40
  clear A40
  replace H := Option.bind_eq_some_iff.mp H
  obtain ⟨⟨t345, t346⟩, A50, H⟩ := H
  replace H : ((seal_Add.f t345 t346 l0).bind fun bt347 => ((seal_Start.f).bind fun bt351 => ((seal_Add.f bt351.1 bt351.2 l1).bind fun bt353 => ((seal_Start.f).bind fun bt357 => ((seal_Add.f bt357.1 bt357.2 l2).bind fun bt359 => ((seal_Join.f bt347.1 bt347.2.1 bt353.1 bt353.2.1 (l1.length : Int)).bind fun bt363 => ((seal_Join.f bt363.1 bt363.2.1 bt359.1 bt359.2.1 (l2.length : Int)).bind fun bt367 => ((seal_Join.f bt353.1 bt353.2.1 bt359.1 bt359.2.1 (l2.length : Int)).bind fun bt371 => ((seal_Join.f bt347.1 bt347.2.1 bt371.1 bt371.2.1 (wrap64 ((l1.length : Int) + (l2.length : Int)))).bind fun bt375 => ((seal_Start.f).bind fun bt379 => ((seal_Join.f bt347.1 bt347.2.1 bt379.1 bt379.2 0).bind fun bt381 => (if t344 = true then (if bt363.2.2 = 0 then (if bt367.2.2 = 0 then (if bt371.2.2 = 0 then (if bt375.2.2 = 0 then (if bt381.2.2 = 0 then (if (bt367.1 == bt375.1 && (bt367.2.1 == bt375.2.1)) = true then (some (bt381.1 == bt347.1 && (bt381.2.1 == bt347.2.1))) else (none)) else (none)) else (none)) else (none)) else (none)) else (none)) else (none))))))))))))) = some r := H
  have A5 := Aside0.mk A50
  clear A50
  replace H := Option.bind_eq_some_iff.mp H
  obtain ⟨⟨t347, t348, t349⟩, A60, H⟩ := H
  replace H : ((seal_Start.f).bind fun bt351 => ((seal_Add.f bt351.1 bt351.2 l1).bind fun bt353 => ((seal_Start.f).bind fun bt357 => ((seal_Add.f bt357.1 bt357.2 l2).bind fun bt359 => ((seal_Join.f t347 t348 bt353.1 bt353.2.1 (l1.length : Int)).bind fun bt363 => ((seal_Join.f bt363.1 bt363.2.1 bt359.1 bt359.2.1 (l2.length : Int)).bind fun bt367 => ((seal_Join.f bt353.1 bt353.2.1 bt359.1 bt359.2.1 (l2.length : Int)).bind fun bt371 => ((seal_Join.f t347 t348 bt371.1 bt371.2.1 (wrap64 ((l1.length : Int) + (l2.length : Int)))).bind fun bt375 => ((seal_Start.f).bind fun bt379 => ((seal_Join.f t347 t348 bt379.1 bt379.2 0).bind fun bt381 => (if t344 = true then (if bt363.2.2 = 0 then (if bt367.2.2 = 0 then (if bt371.2.2 = 0 then (if bt375.2.2 = 0 then (if bt381.2.2 = 0 then (if (bt367.1 == bt375.1 && (bt367.2.1 == bt375.2.1)) = true then (some (bt381.1 == t347 && (bt381.2.1 == t348))) else (none)) else (none)) else (none)) else (none)) else (none)) else (none)) else (none)))))))))))) = some r := H
  have A6 := Aside0.mk A60
  clear A60
  replace H := Option.bind_eq_some_iff.mp H
  obtain ⟨⟨t351, t352⟩, A70, H⟩ := H
  replace H : ((seal_Add.f t351 t352 l1).bind fun bt353 => ((seal_Start.f).bind fun bt357 => ((seal_Add.f bt357.1 bt357.2 l2).bind fun bt359 => ((seal_Join.f t347 t348 bt353.1 bt353.2.1 (l1.length : Int)).bind fun bt363 => ((seal_Join.f bt363.1 bt363.2.1 bt359.1 bt359.2.1 (l2.length : Int)).bind fun bt367 => ((seal_Join.f bt353.1 bt353.2.1 bt359.1 bt359.2.1 (l2.length : Int)).bind fun bt371 => ((seal_Join.f t347 t348 bt371.1 bt371.2.1 (wrap64 ((l1.length : Int) + (l2.length : Int)))).bind fun bt375 => ((seal_Start.f).bind fun bt379 => ((seal_Join.f t347 t348 bt379.1 bt379.2 0).bind fun bt381 => (if t344 = true then (if bt363.2.2 = 0 then (if bt367.2.2 = 0 then (if bt371.2.2 = 0 then (if bt375.2.2 = 0 then (if bt381.2.2 = 0 then (if (bt367.1 == bt375.1 && (bt367.2.1 == bt375.2.1)) = true then (some (bt381.1 == t347 && (bt381.2.1 == t348))) else (none)) else (none)) else (none)) else (none)) else (none)) else (none)) else (none))))))))))) = some r := H
  have A7 := Aside0.mk A70
  clear A70
  replace H := Option.bind_eq_some_iff.mp H
  obtain ⟨⟨t353, t354, t355⟩, A80, H⟩ := H
  replace H : ((seal_Start.f).bind fun bt357 => ((seal_Add.f bt357.1 bt357.2 l2).bind fun bt359 => ((seal_Join.f t347 t348 t353 t354 (l1.length : Int)).bind fun bt363 => ((seal_Join.f bt363.1 bt363.2.1 bt359.1 bt359.2.1 (l2.length : Int)).bind fun bt367 => ((seal_Join.f t353 t354 bt359.1 bt359.2.1 (l2.length : Int)).bind fun bt371 => ((seal_Join.f t347 t348 bt371.1 bt371.2.1 (wrap64 ((l1.length : Int) + (l2.length : Int)))).bind fun bt375 => ((seal_Start.f).bind fun bt379 => ((seal_Join.f t347 t348 bt379.1 bt379.2 0).bind fun bt381 => (if t344 = true then (if bt363.2.2 = 0 then (if bt367.2.2 = 0 then (if bt371.2.2 = 0 then (if bt375.2.2 = 0 then (if bt381.2.2 = 0 then (if (bt367.1 == bt375.1 && (bt367.2.1 == bt375.2.1)) = true then (some (bt381.1 == t347 && (bt381.2.1 == t348))) else (none)) else (none)) else (none)) else (none)) else (none)) else (none)) else (none)))))))))) = some r := H
  have A8 := Aside0.mk A80
  clear A80
  replace H := Option.bind_eq_some_iff.mp H
  obtain ⟨⟨t357, t358⟩, A90, H⟩ := H
  replace H : ((seal_Add.f t357 t358 l2).bind fun bt359 => ((seal_Join.f t347 t348 t353 t354 (l1.length : Int)).bind fun bt363 => ((seal_Join.f bt363.1 bt363.2.1 bt359.1 bt359.2.1 (l2.length : Int)).bind fun bt367 => ((seal_Join.f t353 t354 bt359.1 bt359.2.1 (l2.length : Int)).bind fun bt371 => ((seal_Join.f t347 t348 bt371.1 bt371.2.1 (wrap64 ((l1.length : Int) + (l2.length : Int)))).bind fun bt375 => ((seal_Start.f).bind fun bt379 => ((seal_Join.f t347 t348 bt379.1 bt379.2 0).bind fun bt381 => (if t344 = true then (if bt363.2.2 = 0 then (if bt367.2.2 = 0 then (if bt371.2.2 = 0 then (if bt375.2.2 = 0 then (if bt381.2.2 = 0 then (if (bt367.1 == bt375.1 && (bt367.2.1 == bt375.2.1)) = true then (some (bt381.1 == t347 && (bt381.2.1 == t348))) else (none)) else (none)) else (none)) else (none)) else (none)) else (none)) else (none))))))))) = some r := H
  have A9 := Aside0.mk A90
  clear A90
  replace H := Option.bind_eq_some_iff.mp H
  obtain ⟨⟨t359, t360, t361⟩, A100, H⟩ := H
  replace H : ((seal_Join.f t347 t348 t353 t354 (l1.length : Int)).bind fun bt363 => ((seal_Join.f bt363.1 bt363.2.1 t359 t360 (l2.length : Int)).bind fun bt367 => ((seal_Join.f t353 t354 t359 t360 (l2.length : Int)).bind fun bt371 => ((seal_Join.f t347 t348 bt371.1 bt371.2.1 (wrap64 ((l1.length : Int) + (l2.length : Int)))).bind fun bt375 => ((seal_Start.f).bind fun bt379 => ((seal_Join.f t347 t348 bt379.1 bt379.2 0).bind fun bt381 => (if t344 = true then (if bt363.2.2 = 0 then (if bt367.2.2 = 0 then (if bt371.2.2 = 0 then (if bt375.2.2 = 0 then (if bt381.2.2 = 0 then (if (bt367.1 == bt375.1 && (bt367.2.1 == bt375.2.1)) = true then (some (bt381.1 == t347 && (bt381.2.1 == t348))) else (none)) else (none)) else (none)) else (none)) else (none)) else (none)) else (none)))))))) = some r := H
  have A10 := Aside0.mk A100
  clear A100
  replace H := Option.bind_eq_some_iff.mp H
  obtain ⟨⟨t363, t364, t365⟩, A110, H⟩ := H
  replace H : ((seal_Join.f t363 t364 t359 t360 (l2.length : Int)).bind fun bt367 => ((seal_Join.f t353 t354 t359 t360 (l2.length : Int)).bind fun bt371 => ((seal_Join.f t347 t348 bt371.1 bt371.2.1 (wrap64 ((l1.length : Int) + (l2.length : Int)))).bind fun bt375 => ((seal_Start.f).bind fun bt379 => ((seal_Join.f t347 t348 bt379.1 bt379.2 0).bind fun bt381 => (if t344 = true then (if t365 = 0 then (if bt367.2.2 = 0 then (if bt371.2.2 = 0 then (if bt375.2.2 = 0 then (if bt381.2.2 = 0 then (if (bt367.1 == bt375.1 && (bt367.2.1 == bt375.2.1)) = true then (some (bt381.1 == t347 && (bt381.2.1 == t348))) else (none)) else (none)) else (none)) else (none)) else (none)) else (none)) else (none))))))) = some r := H
  have A11 := Aside0.mk A110
  clear A110
  replace H := Option.bind_eq_some_iff.mp H
  obtain ⟨⟨t367, t368, t369⟩, A120, H⟩ := H
  replace H : ((seal_Join.f t353 t354 t359 t360 (l2.length : Int)).bind fun bt371 => ((seal_Join.f t347 t348 bt371.1 bt371.2.1 (wrap64 ((l1.length : Int) + (l2.length : Int)))).bind fun bt375 => ((seal_Start.f).bind fun bt379 => ((seal_Join.f t347 t348 bt379.1 bt379.2 0).bind fun bt381 => (if t344 = true then (if t365 = 0 then (if t369 = 0 then (if bt371.2.2 = 0 then (if bt375.2.2 = 0 then (if bt381.2.2 = 0 then (if (t367 == bt375.1 && (t368 == bt375.2.1)) = true then (some (bt381.1 == t347 && (bt381.2.1 == t348))) else (none)) else (none)) else (none)) else (none)) else (none)) else (none)) else (none)))))) = some r := H
  have A12 := Aside0.mk A120
  clear A120
  replace H := Option.bind_eq_some_iff.mp H
  obtain ⟨⟨t371, t372, t373⟩, A130, H⟩ := H
  replace H : ((seal_Join.f t347 t348 t371 t372 (wrap64 ((l1.length : Int) + (l2.length : Int)))).bind fun bt375 => ((seal_Start.f).bind fun bt379 => ((seal_Join.f t347 t348 bt379.1 bt379.2 0).bind fun bt381 => (if t344 = true then (if t365 = 0 then (if t369 = 0 then (if t373 = 0 then (if bt375.2.2 = 0 then (if bt381.2.2 = 0 then (if (t367 == bt375.1 && (t368 == bt375.2.1)) = true then (some (bt381.1 == t347 && (bt381.2.1 == t348))) else (none)) else (none)) else (none)) else (none)) else (none)) else (none)) else (none))))) = some r := H
  have A13 := Aside0.mk A130
  clear A130
  replace H := Option.bind_eq_some_iff.mp H
  obtain ⟨⟨t375, t376, t377⟩, A140, H⟩ := H
  replace H : ((seal_Start.f).bind fun bt379 => ((seal_Join.f t347 t348 bt379.1 bt379.2 0).bind fun bt381 => (if t344 = true then (if t365 = 0 then (if t369 = 0 then (if t373 = 0 then (if t377 = 0 then (if bt381.2.2 = 0 then (if (t367 == t375 && (t368 == t376)) = true then (some (bt381.1 == t347 && (bt381.2.1 == t348))) else (none)) else (none)) else (none)) else (none)) else (none)) else (none)) else (none)))) = some r := H
  have A14 := Aside0.mk A140
  clear A140
  replace H := Option.bind_eq_some_iff.mp H
  obtain ⟨⟨t379, t380⟩, A150, H⟩ := H
  replace H : ((seal_Join.f t347 t348 t379 t380 0).bind fun bt381 => (if t344 = true then (if t365 = 0 then (if t369 = 0 then (if t373 = 0 then (if t377 = 0 then (if bt381.2.2 = 0 then (if (t367 == t375 && (t368 == t376)) = true then (some (bt381.1 == t347 && (bt381.2.1 == t348))) else (none)) else (none)) else (none)) else (none)) else (none)) else (none)) else (none))) = some r := H
  have A15 := Aside0.mk A150
  clear A150
  replace H := Option.bind_eq_some_iff.mp H
  obtain ⟨⟨t381, t382, t383⟩, A160, H⟩ := H
  replace H : (if t344 = true then (if t365 = 0 then (if t369 = 0 then (if t373 = 0 then (if t377 = 0 then (if t383 = 0 then (if (t367 == t375 && (t368 == t376)) = true then (some (t381 == t347 && (t382 == t348))) else (none)) else (none)) else (none)) else (none)) else (none)) else (none)) else (none)) = some r := H
  have A16 := Aside0.mk A160
  clear A160
  by_cases c17 : t344 = true
  · subst c17
    have H1 : (if t365 = 0 then (if t369 = 0 then (if t373 = 0 then (if t377 = 0 then (if t383 = 0 then (if (t367 == t375 && (t368 == t376)) = true then (some (t381 == t347 && (t382 == t348))) else (none)) else (none)) else (none)) else (none)) else (none)) else (none)) = some r := by rw [if_pos rfl] at H; exact H
    clear H
    have H := H1
    clear H1
    by_cases c18 : t365 = 0
    · rw [if_pos c18] at H
      have c18b0 : (t365 == 0) = true := beq_iff_eq.mpr c18
      have c18b1 : (t365 != 0) = false := bne_eq_false_iff_eq.mpr c18
      clear c18
      by_cases c19 : t369 = 0
      · rw [if_pos c19] at H
        have c19b0 : (t369 == 0) = true := beq_iff_eq.mpr c19
        have c19b1 : (t369 != 0) = false := bne_eq_false_iff_eq.mpr c19
        clear c19
        by_cases c20 : t373 = 0
        · rw [if_pos c20] at H
          have c20b0 : (t373 == 0) = true := beq_iff_eq.mpr c20
          have c20b1 : (t373 != 0) = false := bne_eq_false_iff_eq.mpr c20
          clear c20
          by_cases c21 : t377 = 0
          · rw [if_pos c21] at H
            have c21b0 : (t377 == 0) = true := beq_iff_eq.mpr c21
            have c21b1 : (t377 != 0) = false := bne_eq_false_iff_eq.mpr c21
            clear c21
            by_cases c22 : t383 = 0
            · rw [if_pos c22] at H
              have c22b0 : (t383 == 0) = true := beq_iff_eq.mpr c22
              have c22b1 : (t383 != 0) = false := bne_eq_false_iff_eq.mpr c22
              clear c22
              by_cases c23 : (t367 == t375 && (t368 == t376)) = true
              · rw [if_pos c23] at H
                have c23b0 : (t367 == t375 && (t368 == t376)) = true := c23
                (try (have c23b1 : decide (t367 = t375 && (t368 == t376)) = true := by simpa using c23))
                (try (have c23b2 : (t367 == t375 && (t368 == t376)) = true := by simpa using c23))
                clear c23
                obtain rfl := Option.some.inj H
                go_enter Try.func9, Try.ntmps9
                try go_wp2_with (first | ((with_reducible refine gate_callee (f := 24) rfl ?_); refine goesL_ (some 24) rfl rfl Try.func24 (by kernel_rfl) rfl #[] rfl (by (try simp only [List.map_toArray, List.map_cons, List.map_nil]); first | done | rfl | (simp only [List.length_drop, List.length_take]; rfl)) ?_; (with_reducible refine (reevelaw02_awake.calls  true _ A4.out).mono ?_); rintro e w24 ⟨rfl, hb⟩; refine ⟨_, rfl, ?_⟩; have n0_ := Aside0.mk (below_step (by repeat (first | (with_reducible first | exact HB.out | apply below_alloc | apply pw_below_drewN | apply below_drew1) | exact HB.out)) hb); clear HB; have HB := n0_; clear n0_; (try clear hb); (try clear hb2); (try clear hk); (try clear hi)) | ((with_reducible refine gate_callee (f := 31) rfl ?_); refine goesL_ (some 26) rfl rfl Try.func31 (by kernel_rfl) rfl #[] rfl (by (try simp only [List.map_toArray, List.map_cons, List.map_nil]); first | done | rfl | (simp only [List.length_drop, List.length_take]; rfl)) ?_; (with_reducible refine (seal_Start.calls  t345 t346 _ A5.out).mono ?_); rintro e w25 ⟨rfl, hb⟩; refine ⟨_, rfl, ?_⟩; have n0_ := Aside0.mk (below_step (by repeat (first | (with_reducible first | exact HB.out | apply below_alloc | apply pw_below_drewN | apply below_drew1) | exact HB.out)) hb); clear HB; have HB := n0_; clear n0_; (try clear hb); (try clear hb2); (try clear hk); (try clear hi)) | ((with_reducible refine gate_callee (f := 27) rfl ?_); refine goesL_ (some 28) rfl rfl Try.func27 (by kernel_rfl) rfl #[.agg #[.int .i64 t345, .int .i64 t346], .slice A0 l0.length c0] rfl (by (try simp only [List.map_toArray, List.map_cons, List.map_nil]); first | done | rfl | (simp only [List.length_drop, List.length_take]; rfl)) ?_; (with_reducible refine (seal_Add.calls t345 t346 _ _ l0 t347 t348 t349 _ ?side1 ?side2 A6.out).mono ?_); (case side1 => repeat (first | exact (Kd.C_below HR0.out HB.out) | (with_reducible refine Kd.C_alloc ?_ _) | (with_reducible refine Kd.C_drewN ?_ _) | (with_reducible refine Kd.C_drew ?_))); (case side2 => exact HC0.out); rintro e w26 ⟨rfl, hb⟩; refine ⟨_, rfl, ?_⟩; have n0_ := Aside0.mk (below_step (by repeat (first | (with_reducible first | exact HB.out | apply below_alloc | apply pw_below_drewN | apply below_drew1) | exact HB.out)) hb); clear HB; have HB := n0_; clear n0_; (try clear hb); (try clear hb2); (try clear hk); (try clear hi)) | ((with_reducible refine gate_dst (N := 8) rfl ?_); refine box_event ?hg (N := 8) ?hd (cs := #[.int .i64 0, .int .i64 0]) (t := 23) ?hr ?_; (case hd => rfl); (case hg => rfl); (case hr => first | (go_simp; done) | (go_simp; rfl)); intro gb350 hg w27 hbox hb; have n0_ := Aside0.mk (below_step (by repeat (first | (with_reducible first | exact HB.out | apply below_alloc | apply pw_below_drewN | apply below_drew1) | exact HB.out)) hb); have n1_ := Aside0.mk (hbox); have n2_ := Aside0.mk ((by rw [hg]; exact (below_size (by repeat (first | (with_reducible first | exact HB.out | apply below_alloc | apply pw_below_drewN | apply below_drew1) | exact HB.out))) : w.heap.size ≤ gb350)); have n3_ := Aside0.mk ((by rw [hg]; exact (below_size (by repeat (first | (with_reducible first | exact HB.out | apply below_alloc | apply pw_below_drewN | apply below_drew1) | exact HB.out))) : w.heap.size ≤ gb350)); clear HB; have HB := n0_; have BK350 := n1_; have GW350 := n2_; have GE350 := n3_; clear n0_ n1_ n2_ n3_; clear hb hbox hg; have hcz28_0 : w27.cell? ⟨gb350, 0, none⟩ = some (.int .i64 0) := (blk_cell BK350.out 0).trans rfl; have hcz28_1 : w27.cell? ⟨gb350, 1, none⟩ = some (.int .i64 0) := (blk_cell BK350.out 1).trans rfl; have hfz28_0 := blk_frozen BK350.out 0; have hfz28_1 := blk_frozen BK350.out 1) | ((with_reducible refine gate_callee (f := 31) rfl ?_); refine goesL_ (some 32) rfl rfl Try.func31 (by kernel_rfl) rfl #[] rfl (by (try simp only [List.map_toArray, List.map_cons, List.map_nil]); first | done | rfl | (simp only [List.length_drop, List.length_take]; rfl)) ?_; (with_reducible refine (seal_Start.calls  t351 t352 _ A7.out).mono ?_); rintro e w29 ⟨rfl, hb⟩; refine ⟨_, rfl, ?_⟩; have n0_ := Aside0.mk (blk_below (g := gb350) (o := .cells #[.int .i64 t347, .int .i64 t348] 23 (0, 0)) (by (with_reducible repeat (first | refine blk_drewN ?_ _ | refine blk_drew ?_ | refine blk_alloc ?_ _)); refine blk_put (cs := #[.int .i64 t347, .int .i64 0]) ?_ 1 _ rfl; (with_reducible repeat (first | refine blk_drewN ?_ _ | refine blk_drew ?_ | refine blk_alloc ?_ _)); refine blk_put (cs := #[.int .i64 0, .int .i64 0]) ?_ 0 _ rfl; (with_reducible repeat (first | refine blk_drewN ?_ _ | refine blk_drew ?_ | refine blk_alloc ?_ _)); exact BK350.out) hb); have n1_ := Aside0.mk (below_step (by repeat (first | (with_reducible first | exact HB.out | apply below_alloc | apply pw_below_drewN | apply below_drew1 | refine below_set ?_ GE350.out) | exact HB.out)) hb); clear BK350; clear HB; have BK350 := n0_; have HB := n1_; clear n0_ n1_; (try clear hb); (try clear hb2); (try clear hk); (try clear hi)) | ((with_reducible refine gate_callee (f := 27) rfl ?_); refine goesL_ (some 34) rfl rfl Try.func27 (by kernel_rfl) rfl #[.agg #[.int .i64 t351, .int .i64 t352], .slice A1 l1.length c1] rfl (by (try simp only [List.map_toArray, List.map_cons, List.map_nil]); first | done | rfl | (simp only [List.length_drop, List.length_take]; rfl)) ?_; (with_reducible refine (seal_Add.calls t351 t352 _ _ l1 t353 t354 t355 _ ?side1 ?side2 A8.out).mono ?_); (case side1 => repeat (first | exact (Kd.C_below HR1.out HB.out) | (with_reducible refine Kd.C_alloc ?_ _) | (with_reducible refine Kd.C_drewN ?_ _) | (with_reducible refine Kd.C_drew ?_))); (case side2 => exact HC1.out); rintro e w30 ⟨rfl, hb⟩; refine ⟨_, rfl, ?_⟩; have n0_ := Aside0.mk (blk_below (g := gb350) (o := .cells #[.int .i64 t347, .int .i64 t348] 23 (0, 0)) (by (with_reducible repeat (first | refine blk_drewN ?_ _ | refine blk_drew ?_ | refine blk_alloc ?_ _)); exact BK350.out) hb); have n1_ := Aside0.mk (below_step (by repeat (first | (with_reducible first | exact HB.out | apply below_alloc | apply pw_below_drewN | apply below_drew1 | refine below_set ?_ GE350.out) | exact HB.out)) hb); clear BK350; clear HB; have BK350 := n0_; have HB := n1_; clear n0_ n1_; (try clear hb); (try clear hb2); (try clear hk); (try clear hi)) | ((with_reducible refine gate_dst (N := 10) rfl ?_); refine box_event ?hg (N := 10) ?hd (cs := #[.int .i64 0, .int .i64 0]) (t := 23) ?hr ?_; (case hd => rfl); (case hg => rfl); (case hr => first | (go_simp; done) | (go_simp; rfl)); intro gb356 hg w31 hbox hb; have n0_ := Aside0.mk (blk_below (g := gb350) (o := .cells #[.int .i64 t347, .int .i64 t348] 23 (0, 0)) (by (with_reducible repeat (first | refine blk_drewN ?_ _ | refine blk_drew ?_ | refine blk_alloc ?_ _)); exact BK350.out) hb); have n1_ := Aside0.mk (below_step (by repeat (first | (with_reducible first | exact HB.out | apply below_alloc | apply pw_below_drewN | apply below_drew1 | refine below_set ?_ GE350.out) | exact HB.out)) hb); have n2_ := Aside0.mk (hbox); have n3_ := Aside0.mk ((by rw [hg]; exact (below_size (by repeat (first | (with_reducible first | exact HB.out | apply below_alloc | apply pw_below_drewN | apply below_drew1 | refine below_set ?_ GE350.out) | exact HB.out))) : w.heap.size ≤ gb356)); have n4_ := Aside0.mk ((by rw [hg]; exact (below_size (by repeat (first | (with_reducible first | exact HB.out | apply below_alloc | apply pw_below_drewN | apply below_drew1 | refine below_set ?_ GE350.out) | exact HB.out))) : w.heap.size ≤ gb356)); have n5_ := Aside0.mk ((by rw [hg]; exact Nat.ne_of_lt (blk_lt (g := gb350) (o := .cells #[.int .i64 t347, .int .i64 t348] 23 (0, 0)) (by (with_reducible repeat (first | refine blk_drewN ?_ _ | refine blk_drew ?_ | refine blk_alloc ?_ _)); exact BK350.out)) : gb350 ≠ gb356)); have n6_ := Aside0.mk ((by rw [hg]; exact Nat.ne_of_gt (blk_lt (g := gb350) (o := .cells #[.int .i64 t347, .int .i64 t348] 23 (0, 0)) (by (with_reducible repeat (first | refine blk_drewN ?_ _ | refine blk_drew ?_ | refine blk_alloc ?_ _)); exact BK350.out)) : gb356 ≠ gb350)); clear BK350; clear HB; have BK350 := n0_; have HB := n1_; have BK356 := n2_; have GW356 := n3_; have GE356 := n4_; have NB350_356 := n5_; have NB356_350 := n6_; clear n0_ n1_ n2_ n3_ n4_ n5_ n6_; clear hb hbox hg; have hnb32 := NB356_350.out; have hnc32 := NB350_356.out; have hcz33_0 : w31.cell? ⟨gb356, 0, none⟩ = some (.int .i64 0) := (blk_cell BK356.out 0).trans rfl; have hcz33_1 : w31.cell? ⟨gb356, 1, none⟩ = some (.int .i64 0) := (blk_cell BK356.out 1).trans rfl; have hfz33_0 := blk_frozen BK356.out 0; have hfz33_1 := blk_frozen BK356.out 1) | ((with_reducible refine gate_callee (f := 31) rfl ?_); refine goesL_ (some 38) rfl rfl Try.func31 (by kernel_rfl) rfl #[] rfl (by (try simp only [List.map_toArray, List.map_cons, List.map_nil]); first | done | rfl | (simp only [List.length_drop, List.length_take]; rfl)) ?_; (with_reducible refine (seal_Start.calls  t357 t358 _ A9.out).mono ?_); rintro e w34 ⟨rfl, hb⟩; refine ⟨_, rfl, ?_⟩; have n0_ := Aside0.mk (blk_below (g := gb350) (o := .cells #[.int .i64 t347, .int .i64 t348] 23 (0, 0)) (by (with_reducible repeat (first | refine blk_drewN ?_ _ | refine blk_drew ?_ | refine blk_alloc ?_ _)); refine blk_far ?_ NB350_356.out _; (with_reducible repeat (first | refine blk_drewN ?_ _ | refine blk_drew ?_ | refine blk_alloc ?_ _)); refine blk_far ?_ NB350_356.out _; (with_reducible repeat (first | refine blk_drewN ?_ _ | refine blk_drew ?_ | refine blk_alloc ?_ _)); exact BK350.out) hb); have n1_ := Aside0.mk (blk_below (g := gb356) (o := .cells #[.int .i64 t353, .int .i64 t354] 23 (0, 0)) (by (with_reducible repeat (first | refine blk_drewN ?_ _ | refine blk_drew ?_ | refine blk_alloc ?_ _)); refine blk_put (cs := #[.int .i64 t353, .int .i64 0]) ?_ 1 _ rfl; (with_reducible repeat (first | refine blk_drewN ?_ _ | refine blk_drew ?_ | refine blk_alloc ?_ _)); refine blk_put (cs := #[.int .i64 0, .int .i64 0]) ?_ 0 _ rfl; (with_reducible repeat (first | refine blk_drewN ?_ _ | refine blk_drew ?_ | refine blk_alloc ?_ _)); exact BK356.out) hb); have n2_ := Aside0.mk (below_step (by repeat (first | (with_reducible first | exact HB.out | apply below_alloc | apply pw_below_drewN | apply below_drew1 | refine below_set ?_ GE350.out | refine below_set ?_ GE356.out) | exact HB.out)) hb); clear BK350; clear BK356; clear HB; have BK350 := n0_; have BK356 := n1_; have HB := n2_; clear n0_ n1_ n2_; (try clear hb); (try clear hb2); (try clear hk); (try clear hi)) | ((with_reducible refine gate_callee (f := 27) rfl ?_); refine goesL_ (some 40) rfl rfl Try.func27 (by kernel_rfl) rfl #[.agg #[.int .i64 t357, .int .i64 t358], .slice A2 l2.length c2] rfl (by (try simp only [List.map_toArray, List.map_cons, List.map_nil]); first | done | rfl | (simp only [List.length_drop, List.length_take]; rfl)) ?_; (with_reducible refine (seal_Add.calls t357 t358 _ _ l2 t359 t360 t361 _ ?side1 ?side2 A10.out).mono ?_); (case side1 => repeat (first | exact (Kd.C_below HR2.out HB.out) | (with_reducible refine Kd.C_alloc ?_ _) | (with_reducible refine Kd.C_drewN ?_ _) | (with_reducible refine Kd.C_drew ?_))); (case side2 => exact HC2.out); rintro e w35 ⟨rfl, hb⟩; refine ⟨_, rfl, ?_⟩; have n0_ := Aside0.mk (blk_below (g := gb350) (o := .cells #[.int .i64 t347, .int .i64 t348] 23 (0, 0)) (by (with_reducible repeat (first | refine blk_drewN ?_ _ | refine blk_drew ?_ | refine blk_alloc ?_ _)); exact BK350.out) hb); have n1_ := Aside0.mk (blk_below (g := gb356) (o := .cells #[.int .i64 t353, .int .i64 t354] 23 (0, 0)) (by (with_reducible repeat (first | refine blk_drewN ?_ _ | refine blk_drew ?_ | refine blk_alloc ?_ _)); exact BK356.out) hb); have n2_ := Aside0.mk (below_step (by repeat (first | (with_reducible first | exact HB.out | apply below_alloc | apply pw_below_drewN | apply below_drew1 | refine below_set ?_ GE350.out | refine below_set ?_ GE356.out) | exact HB.out)) hb); clear BK350; clear BK356; clear HB; have BK350 := n0_; have BK356 := n1_; have HB := n2_; clear n0_ n1_ n2_; (try clear hb); (try clear hb2); (try clear hk); (try clear hi)) | ((with_reducible refine gate_dst (N := 12) rfl ?_); refine box_event ?hg (N := 12) ?hd (cs := #[.int .i64 0, .int .i64 0]) (t := 23) ?hr ?_; (case hd => rfl); (case hg => rfl); (case hr => first | (go_simp; done) | (go_simp; rfl)); intro gb362 hg w36 hbox hb; have n0_ := Aside0.mk (blk_below (g := gb350) (o := .cells #[.int .i64 t347, .int .i64 t348] 23 (0, 0)) (by (with_reducible repeat (first | refine blk_drewN ?_ _ | refine blk_drew ?_ | refine blk_alloc ?_ _)); exact BK350.out) hb); have n1_ := Aside0.mk (blk_below (g := gb356) (o := .cells #[.int .i64 t353, .int .i64 t354] 23 (0, 0)) (by (with_reducible repeat (first | refine blk_drewN ?_ _ | refine blk_drew ?_ | refine blk_alloc ?_ _)); exact BK356.out) hb); have n2_ := Aside0.mk (below_step (by repeat (first | (with_reducible first | exact HB.out | apply below_alloc | apply pw_below_drewN | apply below_drew1 | refine below_set ?_ GE350.out | refine below_set ?_ GE356.out) | exact HB.out)) hb); have n3_ := Aside0.mk (hbox); have n4_ := Aside0.mk ((by rw [hg]; exact (below_size (by repeat (first | (with_reducible first | exact HB.out | apply below_alloc | apply pw_below_drewN | apply below_drew1 | refine below_set ?_ GE350.out | refine below_set ?_ GE356.out) | exact HB.out))) : w.heap.size ≤ gb362)); have n5_ := Aside0.mk ((by rw [hg]; exact (below_size (by repeat (first | (with_reducible first | exact HB.out | apply below_alloc | apply pw_below_drewN | apply below_drew1 | refine below_set ?_ GE350.out | refine below_set ?_ GE356.out) | exact HB.out))) : w.heap.size ≤ gb362)); have n6_ := Aside0.mk ((by rw [hg]; exact Nat.ne_of_lt (blk_lt (g := gb350) (o := .cells #[.int .i64 t347, .int .i64 t348] 23 (0, 0)) (by (with_reducible repeat (first | refine blk_drewN ?_ _ | refine blk_drew ?_ | refine blk_alloc ?_ _)); exact BK350.out)) : gb350 ≠ gb362)); have n7_ := Aside0.mk ((by rw [hg]; exact Nat.ne_of_gt (blk_lt (g := gb350) (o := .cells #[.int .i64 t347, .int .i64 t348] 23 (0, 0)) (by (with_reducible repeat (first | refine blk_drewN ?_ _ | refine blk_drew ?_ | refine blk_alloc ?_ _)); exact BK350.out)) : gb362 ≠ gb350)); have n8_ := Aside0.mk ((by rw [hg]; exact Nat.ne_of_lt (blk_lt (g := gb356) (o := .cells #[.int .i64 t353, .int .i64 t354] 23 (0, 0)) (by (with_reducible repeat (first | refine blk_drewN ?_ _ | refine blk_drew ?_ | refine blk_alloc ?_ _)); exact BK356.out)) : gb356 ≠ gb362)); have n9_ := Aside0.mk ((by rw [hg]; exact Nat.ne_of_gt (blk_lt (g := gb356) (o := .cells #[.int .i64 t353, .int .i64 t354] 23 (0, 0)) (by (with_reducible repeat (first | refine blk_drewN ?_ _ | refine blk_drew ?_ | refine blk_alloc ?_ _)); exact BK356.out)) : gb362 ≠ gb356)); clear BK350; clear BK356; clear HB; have BK350 := n0_; have BK356 := n1_; have HB := n2_; have BK362 := n3_; have GW362 := n4_; have GE362 := n5_; have NB350_362 := n6_; have NB362_350 := n7_; have NB356_362 := n8_; have NB362_356 := n9_; clear n0_ n1_ n2_ n3_ n4_ n5_ n6_ n7_ n8_ n9_; clear hb hbox hg; have hnb37 := NB362_350.out; have hnc37 := NB350_362.out; have hnb38 := NB362_356.out; have hnc38 := NB356_362.out; have hcz39_0 : w36.cell? ⟨gb362, 0, none⟩ = some (.int .i64 0) := (blk_cell BK362.out 0).trans rfl; have hcz39_1 : w36.cell? ⟨gb362, 1, none⟩ = some (.int .i64 0) := (blk_cell BK362.out 1).trans rfl; have hfz39_0 := blk_frozen BK362.out 0; have hfz39_1 := blk_frozen BK362.out 1; have hcz40_0 : w36.cell? ⟨gb350, 0, none⟩ = some (.int .i64 t347) := (blk_cell BK350.out 0).trans rfl; have hcz40_1 : w36.cell? ⟨gb350, 1, none⟩ = some (.int .i64 t348) := (blk_cell BK350.out 1).trans rfl; have hfz40_0 := blk_frozen BK350.out 0; have hfz40_1 := blk_frozen BK350.out 1; have hcz41_0 : w36.cell? ⟨gb356, 0, none⟩ = some (.int .i64 t353) := (blk_cell BK356.out 0).trans rfl; have hcz41_1 : w36.cell? ⟨gb356, 1, none⟩ = some (.int .i64 t354) := (blk_cell BK356.out 1).trans rfl; have hfz41_0 := blk_frozen BK356.out 0; have hfz41_1 := blk_frozen BK356.out 1) | ((with_reducible refine gate_callee (f := 40) rfl ?_); refine goesL_ (some 48) rfl rfl Try.func40 (by kernel_rfl) rfl #[.agg #[.int .i64 t347, .int .i64 t348], .agg #[.int .i64 t353, .int .i64 t354], .int .i64 (l1.length : Int)] rfl (by (try simp only [List.map_toArray, List.map_cons, List.map_nil]); first | done | rfl | (simp only [List.length_drop, List.length_take]; rfl)) ?_; (with_reducible refine (seal_Join.calls t347 t348 t353 t354 (l1.length : Int) t363 t364 t365 _ A11.out).mono ?_); rintro e w42 ⟨rfl, hb⟩; refine ⟨_, rfl, ?_⟩; have n0_ := Aside0.mk (blk_below (g := gb350) (o := .cells #[.int .i64 t347, .int .i64 t348] 23 (0, 0)) (by (with_reducible repeat (first | refine blk_drewN ?_ _ | refine blk_drew ?_ | refine blk_alloc ?_ _)); refine blk_far ?_ NB350_362.out _; (with_reducible repeat (first | refine blk_drewN ?_ _ | refine blk_drew ?_ | refine blk_alloc ?_ _)); refine blk_far ?_ NB350_362.out _; (with_reducible repeat (first | refine blk_drewN ?_ _ | refine blk_drew ?_ | refine blk_alloc ?_ _)); exact BK350.out) hb); have n1_ := Aside0.mk (blk_below (g := gb356) (o := .cells #[.int .i64 t353, .int .i64 t354] 23 (0, 0)) (by (with_reducible repeat (first | refine blk_drewN ?_ _ | refine blk_drew ?_ | refine blk_alloc ?_ _)); refine blk_far ?_ NB356_362.out _; (with_reducible repeat (first | refine blk_drewN ?_ _ | refine blk_drew ?_ | refine blk_alloc ?_ _)); refine blk_far ?_ NB356_362.out _; (with_reducible repeat (first | refine blk_drewN ?_ _ | refine blk_drew ?_ | refine blk_alloc ?_ _)); exact BK356.out) hb); have n2_ := Aside0.mk (blk_below (g := gb362) (o := .cells #[.int .i64 t359, .int .i64 t360] 23 (0, 0)) (by (with_reducible repeat (first | refine blk_drewN ?_ _ | refine blk_drew ?_ | refine blk_alloc ?_ _)); refine blk_put (cs := #[.int .i64 t359, .int .i64 0]) ?_ 1 _ rfl; (with_reducible repeat (first | refine blk_drewN ?_ _ | refine blk_drew ?_ | refine blk_alloc ?_ _)); refine blk_put (cs := #[.int .i64 0, .int .i64 0]) ?_ 0 _ rfl; (with_reducible repeat (first | refine blk_drewN ?_ _ | refine blk_drew ?_ | refine blk_alloc ?_ _)); exact BK362.out) hb); have n3_ := Aside0.mk (below_step (by repeat (first | (with_reducible first | exact HB.out | apply below_alloc | apply pw_below_drewN | apply below_drew1 | refine below_set ?_ GE350.out | refine below_set ?_ GE356.out | refine below_set ?_ GE362.out) | exact HB.out)) hb); clear BK350; clear BK356; clear BK362; clear HB; have BK350 := n0_; have BK356 := n1_; have BK362 := n2_; have HB := n3_; clear n0_ n1_ n2_ n3_; (try clear hb); (try clear hb2); (try clear hk); (try clear hi)) | ((with_reducible refine gate_dst (N := 14) rfl ?_); refine box_event ?hg (N := 14) ?hd (cs := #[.int .i64 0, .int .i64 0]) (t := 23) ?hr ?_; (case hd => rfl); (case hg => rfl); (case hr => first | (go_simp; done) | (go_simp; rfl)); intro gb366 hg w43 hbox hb; have n0_ := Aside0.mk (blk_below (g := gb350) (o := .cells #[.int .i64 t347, .int .i64 t348] 23 (0, 0)) (by (with_reducible repeat (first | refine blk_drewN ?_ _ | refine blk_drew ?_ | refine blk_alloc ?_ _)); exact BK350.out) hb); have n1_ := Aside0.mk (blk_below (g := gb356) (o := .cells #[.int .i64 t353, .int .i64 t354] 23 (0, 0)) (by (with_reducible repeat (first | refine blk_drewN ?_ _ | refine blk_drew ?_ | refine blk_alloc ?_ _)); exact BK356.out) hb); have n2_ := Aside0.mk (blk_below (g := gb362) (o := .cells #[.int .i64 t359, .int .i64 t360] 23 (0, 0)) (by (with_reducible repeat (first | refine blk_drewN ?_ _ | refine blk_drew ?_ | refine blk_alloc ?_ _)); exact BK362.out) hb); have n3_ := Aside0.mk (below_step (by repeat (first | (with_reducible first | exact HB.out | apply below_alloc | apply pw_below_drewN | apply below_drew1 | refine below_set ?_ GE350.out | refine below_set ?_ GE356.out | refine below_set ?_ GE362.out) | exact HB.out)) hb); have n4_ := Aside0.mk (hbox); have n5_ := Aside0.mk ((by rw [hg]; exact (below_size (by repeat (first | (with_reducible first | exact HB.out | apply below_alloc | apply pw_below_drewN | apply below_drew1 | refine below_set ?_ GE350.out | refine below_set ?_ GE356.out | refine below_set ?_ GE362.out) | exact HB.out))) : w.heap.size ≤ gb366)); have n6_ := Aside0.mk ((by rw [hg]; exact (below_size (by repeat (first | (with_reducible first | exact HB.out | apply below_alloc | apply pw_below_drewN | apply below_drew1 | refine below_set ?_ GE350.out | refine below_set ?_ GE356.out | refine below_set ?_ GE362.out) | exact HB.out))) : w.heap.size ≤ gb366)); have n7_ := Aside0.mk ((by rw [hg]; exact Nat.ne_of_lt (blk_lt (g := gb350) (o := .cells #[.int .i64 t347, .int .i64 t348] 23 (0, 0)) (by (with_reducible repeat (first | refine blk_drewN ?_ _ | refine blk_drew ?_ | refine blk_alloc ?_ _)); exact BK350.out)) : gb350 ≠ gb366)); have n8_ := Aside0.mk ((by rw [hg]; exact Nat.ne_of_gt (blk_lt (g := gb350) (o := .cells #[.int .i64 t347, .int .i64 t348] 23 (0, 0)) (by (with_reducible repeat (first | refine blk_drewN ?_ _ | refine blk_drew ?_ | refine blk_alloc ?_ _)); exact BK350.out)) : gb366 ≠ gb350)); have n9_ := Aside0.mk ((by rw [hg]; exact Nat.ne_of_lt (blk_lt (g := gb356) (o := .cells #[.int .i64 t353, .int .i64 t354] 23 (0, 0)) (by (with_reducible repeat (first | refine blk_drewN ?_ _ | refine blk_drew ?_ | refine blk_alloc ?_ _)); exact BK356.out)) : gb356 ≠ gb366)); have n10_ := Aside0.mk ((by rw [hg]; exact Nat.ne_of_gt (blk_lt (g := gb356) (o := .cells #[.int .i64 t353, .int .i64 t354] 23 (0, 0)) (by (with_reducible repeat (first | refine blk_drewN ?_ _ | refine blk_drew ?_ | refine blk_alloc ?_ _)); exact BK356.out)) : gb366 ≠ gb356)); have n11_ := Aside0.mk ((by rw [hg]; exact Nat.ne_of_lt (blk_lt (g := gb362) (o := .cells #[.int .i64 t359, .int .i64 t360] 23 (0, 0)) (by (with_reducible repeat (first | refine blk_drewN ?_ _ | refine blk_drew ?_ | refine blk_alloc ?_ _)); exact BK362.out)) : gb362 ≠ gb366)); have n12_ := Aside0.mk ((by rw [hg]; exact Nat.ne_of_gt (blk_lt (g := gb362) (o := .cells #[.int .i64 t359, .int .i64 t360] 23 (0, 0)) (by (with_reducible repeat (first | refine blk_drewN ?_ _ | refine blk_drew ?_ | refine blk_alloc ?_ _)); exact BK362.out)) : gb366 ≠ gb362)); clear BK350; clear BK356; clear BK362; clear HB; have BK350 := n0_; have BK356 := n1_; have BK362 := n2_; have HB := n3_; have BK366 := n4_; have GW366 := n5_; have GE366 := n6_; have NB350_366 := n7_; have NB366_350 := n8_; have NB356_366 := n9_; have NB366_356 := n10_; have NB362_366 := n11_; have NB366_362 := n12_; clear n0_ n1_ n2_ n3_ n4_ n5_ n6_ n7_ n8_ n9_ n10_ n11_ n12_; clear hb hbox hg; have hnb44 := NB366_350.out; have hnc44 := NB350_366.out; have hnb45 := NB366_356.out; have hnc45 := NB356_366.out; have hnb46 := NB366_362.out; have hnc46 := NB362_366.out; have hcz47_0 : w43.cell? ⟨gb366, 0, none⟩ = some (.int .i64 0) := (blk_cell BK366.out 0).trans rfl; have hcz47_1 : w43.cell? ⟨gb366, 1, none⟩ = some (.int .i64 0) := (blk_cell BK366.out 1).trans rfl; have hfz47_0 := blk_frozen BK366.out 0; have hfz47_1 := blk_frozen BK366.out 1; have hcz48_0 : w43.cell? ⟨gb362, 0, none⟩ = some (.int .i64 t359) := (blk_cell BK362.out 0).trans rfl; have hcz48_1 : w43.cell? ⟨gb362, 1, none⟩ = some (.int .i64 t360) := (blk_cell BK362.out 1).trans rfl; have hfz48_0 := blk_frozen BK362.out 0; have hfz48_1 := blk_frozen BK362.out 1) | ((with_reducible refine gate_callee (f := 40) rfl ?_); refine goesL_ (some 56) rfl rfl Try.func40 (by kernel_rfl) rfl #[.agg #[.int .i64 t363, .int .i64 t364], .agg #[.int .i64 t359, .int .i64 t360], .int .i64 (l2.length : Int)] rfl (by (try simp only [List.map_toArray, List.map_cons, List.map_nil]); first | done | rfl | (simp only [List.length_drop, List.length_take]; rfl)) ?_; (with_reducible refine (seal_Join.calls t363 t364 t359 t360 (l2.length : Int) t367 t368 t369 _ A12.out).mono ?_); rintro e w49 ⟨rfl, hb⟩; refine ⟨_, rfl, ?_⟩; have n0_ := Aside0.mk (blk_below (g := gb350) (o := .cells #[.int .i64 t347, .int .i64 t348] 23 (0, 0)) (by (with_reducible repeat (first | refine blk_drewN ?_ _ | refine blk_drew ?_ | refine blk_alloc ?_ _)); refine blk_far ?_ NB350_366.out _; (with_reducible repeat (first | refine blk_drewN ?_ _ | refine blk_drew ?_ | refine blk_alloc ?_ _)); refine blk_far ?_ NB350_366.out _; (with_reducible repeat (first | refine blk_drewN ?_ _ | refine blk_drew ?_ | refine blk_alloc ?_ _)); exact BK350.out) hb); have n1_ := Aside0.mk (blk_below (g := gb356) (o := .cells #[.int .i64 t353, .int .i64 t354] 23 (0, 0)) (by (with_reducible repeat (first | refine blk_drewN ?_ _ | refine blk_drew ?_ | refine blk_alloc ?_ _)); refine blk_far ?_ NB356_366.out _; (with_reducible repeat (first | refine blk_drewN ?_ _ | refine blk_drew ?_ | refine blk_alloc ?_ _)); refine blk_far ?_ NB356_366.out _; (with_reducible repeat (first | refine blk_drewN ?_ _ | refine blk_drew ?_ | refine blk_alloc ?_ _)); exact BK356.out) hb); have n2_ := Aside0.mk (blk_below (g := gb362) (o := .cells #[.int .i64 t359, .int .i64 t360] 23 (0, 0)) (by (with_reducible repeat (first | refine blk_drewN ?_ _ | refine blk_drew ?_ | refine blk_alloc ?_ _)); refine blk_far ?_ NB362_366.out _; (with_reducible repeat (first | refine blk_drewN ?_ _ | refine blk_drew ?_ | refine blk_alloc ?_ _)); refine blk_far ?_ NB362_366.out _; (with_reducible repeat (first | refine blk_drewN ?_ _ | refine blk_drew ?_ | refine blk_alloc ?_ _)); exact BK362.out) hb); have n3_ := Aside0.mk (blk_below (g := gb366) (o := .cells #[.int .i64 t363, .int .i64 t364] 23 (0, 0)) (by (with_reducible repeat (first | refine blk_drewN ?_ _ | refine blk_drew ?_ | refine blk_alloc ?_ _)); refine blk_put (cs := #[.int .i64 t363, .int .i64 0]) ?_ 1 _ rfl; (with_reducible repeat (first | refine blk_drewN ?_ _ | refine blk_drew ?_ | refine blk_alloc ?_ _)); refine blk_put (cs := #[.int .i64 0, .int .i64 0]) ?_ 0 _ rfl; (with_reducible repeat (first | refine blk_drewN ?_ _ | refine blk_drew ?_ | refine blk_alloc ?_ _)); exact BK366.out) hb); have n4_ := Aside0.mk (below_step (by repeat (first | (with_reducible first | exact HB.out | apply below_alloc | apply pw_below_drewN | apply below_drew1 | refine below_set ?_ GE350.out | refine below_set ?_ GE356.out | refine below_set ?_ GE362.out | refine below_set ?_ GE366.out) | exact HB.out)) hb); clear BK350; clear BK356; clear BK362; clear BK366; clear HB; have BK350 := n0_; have BK356 := n1_; have BK362 := n2_; have BK366 := n3_; have HB := n4_; clear n0_ n1_ n2_ n3_ n4_; (try clear hb); (try clear hb2); (try clear hk); (try clear hi)) | ((with_reducible refine gate_dst (N := 16) rfl ?_); refine box_event ?hg (N := 16) ?hd (cs := #[.int .i64 0, .int .i64 0]) (t := 23) ?hr ?_; (case hd => rfl); (case hg => rfl); (case hr => first | (go_simp; done) | (go_simp; rfl)); intro gb370 hg w50 hbox hb; have n0_ := Aside0.mk (blk_below (g := gb350) (o := .cells #[.int .i64 t347, .int .i64 t348] 23 (0, 0)) (by (with_reducible repeat (first | refine blk_drewN ?_ _ | refine blk_drew ?_ | refine blk_alloc ?_ _)); exact BK350.out) hb); have n1_ := Aside0.mk (blk_below (g := gb356) (o := .cells #[.int .i64 t353, .int .i64 t354] 23 (0, 0)) (by (with_reducible repeat (first | refine blk_drewN ?_ _ | refine blk_drew ?_ | refine blk_alloc ?_ _)); exact BK356.out) hb); have n2_ := Aside0.mk (blk_below (g := gb362) (o := .cells #[.int .i64 t359, .int .i64 t360] 23 (0, 0)) (by (with_reducible repeat (first | refine blk_drewN ?_ _ | refine blk_drew ?_ | refine blk_alloc ?_ _)); exact BK362.out) hb); have n3_ := Aside0.mk (blk_below (g := gb366) (o := .cells #[.int .i64 t363, .int .i64 t364] 23 (0, 0)) (by (with_reducible repeat (first | refine blk_drewN ?_ _ | refine blk_drew ?_ | refine blk_alloc ?_ _)); exact BK366.out) hb); have n4_ := Aside0.mk (below_step (by repeat (first | (with_reducible first | exact HB.out | apply below_alloc | apply pw_below_drewN | apply below_drew1 | refine below_set ?_ GE350.out | refine below_set ?_ GE356.out | refine below_set ?_ GE362.out | refine below_set ?_ GE366.out) | exact HB.out)) hb); have n5_ := Aside0.mk (hbox); have n6_ := Aside0.mk ((by rw [hg]; exact (below_size (by repeat (first | (with_reducible first | exact HB.out | apply below_alloc | apply pw_below_drewN | apply below_drew1 | refine below_set ?_ GE350.out | refine below_set ?_ GE356.out | refine below_set ?_ GE362.out | refine below_set ?_ GE366.out) | exact HB.out))) : w.heap.size ≤ gb370)); have n7_ := Aside0.mk ((by rw [hg]; exact (below_size (by repeat (first | (with_reducible first | exact HB.out | apply below_alloc | apply pw_below_drewN | apply below_drew1 | refine below_set ?_ GE350.out | refine below_set ?_ GE356.out | refine below_set ?_ GE362.out | refine below_set ?_ GE366.out) | exact HB.out))) : w.heap.size ≤ gb370)); have n8_ := Aside0.mk ((by rw [hg]; exact Nat.ne_of_lt (blk_lt (g := gb350) (o := .cells #[.int .i64 t347, .int .i64 t348] 23 (0, 0)) (by (with_reducible repeat (first | refine blk_drewN ?_ _ | refine blk_drew ?_ | refine blk_alloc ?_ _)); exact BK350.out)) : gb350 ≠ gb370)); have n9_ := Aside0.mk ((by rw [hg]; exact Nat.ne_of_gt (blk_lt (g := gb350) (o := .cells #[.int .i64 t347, .int .i64 t348] 23 (0, 0)) (by (with_reducible repeat (first | refine blk_drewN ?_ _ | refine blk_drew ?_ | refine blk_alloc ?_ _)); exact BK350.out)) : gb370 ≠ gb350)); have n10_ := Aside0.mk ((by rw [hg]; exact Nat.ne_of_lt (blk_lt (g := gb356) (o := .cells #[.int .i64 t353, .int .i64 t354] 23 (0, 0)) (by (with_reducible repeat (first | refine blk_drewN ?_ _ | refine blk_drew ?_ | refine blk_alloc ?_ _)); exact BK356.out)) : gb356 ≠ gb370)); have n11_ := Aside0.mk ((by rw [hg]; exact Nat.ne_of_gt (blk_lt (g := gb356) (o := .cells #[.int .i64 t353, .int .i64 t354] 23 (0, 0)) (by (with_reducible repeat (first | refine blk_drewN ?_ _ | refine blk_drew ?_ | refine blk_alloc ?_ _)); exact BK356.out)) : gb370 ≠ gb356)); have n12_ := Aside0.mk ((by rw [hg]; exact Nat.ne_of_lt (blk_lt (g := gb362) (o := .cells #[.int .i64 t359, .int .i64 t360] 23 (0, 0)) (by (with_reducible repeat (first | refine blk_drewN ?_ _ | refine blk_drew ?_ | refine blk_alloc ?_ _)); exact BK362.out)) : gb362 ≠ gb370)); have n13_ := Aside0.mk ((by rw [hg]; exact Nat.ne_of_gt (blk_lt (g := gb362) (o := .cells #[.int .i64 t359, .int .i64 t360] 23 (0, 0)) (by (with_reducible repeat (first | refine blk_drewN ?_ _ | refine blk_drew ?_ | refine blk_alloc ?_ _)); exact BK362.out)) : gb370 ≠ gb362)); have n14_ := Aside0.mk ((by rw [hg]; exact Nat.ne_of_lt (blk_lt (g := gb366) (o := .cells #[.int .i64 t363, .int .i64 t364] 23 (0, 0)) (by (with_reducible repeat (first | refine blk_drewN ?_ _ | refine blk_drew ?_ | refine blk_alloc ?_ _)); exact BK366.out)) : gb366 ≠ gb370)); have n15_ := Aside0.mk ((by rw [hg]; exact Nat.ne_of_gt (blk_lt (g := gb366) (o := .cells #[.int .i64 t363, .int .i64 t364] 23 (0, 0)) (by (with_reducible repeat (first | refine blk_drewN ?_ _ | refine blk_drew ?_ | refine blk_alloc ?_ _)); exact BK366.out)) : gb370 ≠ gb366)); clear BK350; clear BK356; clear BK362; clear BK366; clear HB; have BK350 := n0_; have BK356 := n1_; have BK362 := n2_; have BK366 := n3_; have HB := n4_; have BK370 := n5_; have GW370 := n6_; have GE370 := n7_; have NB350_370 := n8_; have NB370_350 := n9_; have NB356_370 := n10_; have NB370_356 := n11_; have NB362_370 := n12_; have NB370_362 := n13_; have NB366_370 := n14_; have NB370_366 := n15_; clear n0_ n1_ n2_ n3_ n4_ n5_ n6_ n7_ n8_ n9_ n10_ n11_ n12_ n13_ n14_ n15_; clear hb hbox hg; have hnb51 := NB370_350.out; have hnc51 := NB350_370.out; have hnb52 := NB370_356.out; have hnc52 := NB356_370.out; have hnb53 := NB370_362.out; have hnc53 := NB362_370.out; have hnb54 := NB370_366.out; have hnc54 := NB366_370.out; have hcz55_0 : w50.cell? ⟨gb370, 0, none⟩ = some (.int .i64 0) := (blk_cell BK370.out 0).trans rfl; have hcz55_1 : w50.cell? ⟨gb370, 1, none⟩ = some (.int .i64 0) := (blk_cell BK370.out 1).trans rfl; have hfz55_0 := blk_frozen BK370.out 0; have hfz55_1 := blk_frozen BK370.out 1; have hcz56_0 : w50.cell? ⟨gb356, 0, none⟩ = some (.int .i64 t353) := (blk_cell BK356.out 0).trans rfl; have hcz56_1 : w50.cell? ⟨gb356, 1, none⟩ = some (.int .i64 t354) := (blk_cell BK356.out 1).trans rfl; have hfz56_0 := blk_frozen BK356.out 0; have hfz56_1 := blk_frozen BK356.out 1; have hcz57_0 : w50.cell? ⟨gb362, 0, none⟩ = some (.int .i64 t359) := (blk_cell BK362.out 0).trans rfl; have hcz57_1 : w50.cell? ⟨gb362, 1, none⟩ = some (.int .i64 t360) := (blk_cell BK362.out 1).trans rfl; have hfz57_0 := blk_frozen BK362.out 0; have hfz57_1 := blk_frozen BK362.out 1) | ((with_reducible refine gate_callee (f := 40) rfl ?_); refine goesL_ (some 64) rfl rfl Try.func40 (by kernel_rfl) rfl #[.agg #[.int .i64 t353, .int .i64 t354], .agg #[.int .i64 t359, .int .i64 t360], .int .i64 (l2.length : Int)] rfl (by (try simp only [List.map_toArray, List.map_cons, List.map_nil]); first | done | rfl | (simp only [List.length_drop, List.length_take]; rfl)) ?_; (with_reducible refine (seal_Join.calls t353 t354 t359 t360 (l2.length : Int) t371 t372 t373 _ A13.out).mono ?_); rintro e w58 ⟨rfl, hb⟩; refine ⟨_, rfl, ?_⟩; have n0_ := Aside0.mk (blk_below (g := gb350) (o := .cells #[.int .i64 t347, .int .i64 t348] 23 (0, 0)) (by (with_reducible repeat (first | refine blk_drewN ?_ _ | refine blk_drew ?_ | refine blk_alloc ?_ _)); refine blk_far ?_ NB350_370.out _; (with_reducible repeat (first | refine blk_drewN ?_ _ | refine blk_drew ?_ | refine blk_alloc ?_ _)); refine blk_far ?_ NB350_370.out _; (with_reducible repeat (first | refine blk_drewN ?_ _ | refine blk_drew ?_ | refine blk_alloc ?_ _)); exact BK350.out) hb); have n1_ := Aside0.mk (blk_below (g := gb356) (o := .cells #[.int .i64 t353, .int .i64 t354] 23 (0, 0)) (by (with_reducible repeat (first | refine blk_drewN ?_ _ | refine blk_drew ?_ | refine blk_alloc ?_ _)); refine blk_far ?_ NB356_370.out _; (with_reducible repeat (first | refine blk_drewN ?_ _ | refine blk_drew ?_ | refine blk_alloc ?_ _)); refine blk_far ?_ NB356_370.out _; (with_reducible repeat (first | refine blk_drewN ?_ _ | refine blk_drew ?_ | refine blk_alloc ?_ _)); exact BK356.out) hb); have n2_ := Aside0.mk (blk_below (g := gb362) (o := .cells #[.int .i64 t359, .int .i64 t360] 23 (0, 0)) (by (with_reducible repeat (first | refine blk_drewN ?_ _ | refine blk_drew ?_ | refine blk_alloc ?_ _)); refine blk_far ?_ NB362_370.out _; (with_reducible repeat (first | refine blk_drewN ?_ _ | refine blk_drew ?_ | refine blk_alloc ?_ _)); refine blk_far ?_ NB362_370.out _; (with_reducible repeat (first | refine blk_drewN ?_ _ | refine blk_drew ?_ | refine blk_alloc ?_ _)); exact BK362.out) hb); have n3_ := Aside0.mk (blk_below (g := gb366) (o := .cells #[.int .i64 t363, .int .i64 t364] 23 (0, 0)) (by (with_reducible repeat (first | refine blk_drewN ?_ _ | refine blk_drew ?_ | refine blk_alloc ?_ _)); refine blk_far ?_ NB366_370.out _; (with_reducible repeat (first | refine blk_drewN ?_ _ | refine blk_drew ?_ | refine blk_alloc ?_ _)); refine blk_far ?_ NB366_370.out _; (with_reducible repeat (first | refine blk_drewN ?_ _ | refine blk_drew ?_ | refine blk_alloc ?_ _)); exact BK366.out) hb); have n4_ := Aside0.mk (blk_below (g := gb370) (o := .cells #[.int .i64 t367, .int .i64 t368] 23 (0, 0)) (by (with_reducible repeat (first | refine blk_drewN ?_ _ | refine blk_drew ?_ | refine blk_alloc ?_ _)); refine blk_put (cs := #[.int .i64 t367, .int .i64 0]) ?_ 1 _ rfl; (with_reducible repeat (first | refine blk_drewN ?_ _ | refine blk_drew ?_ | refine blk_alloc ?_ _)); refine blk_put (cs := #[.int .i64 0, .int .i64 0]) ?_ 0 _ rfl; (with_reducible repeat (first | refine blk_drewN ?_ _ | refine blk_drew ?_ | refine blk_alloc ?_ _)); exact BK370.out) hb); have n5_ := Aside0.mk (below_step (by repeat (first | (with_reducible first | exact HB.out | apply below_alloc | apply pw_below_drewN | apply below_drew1 | refine below_set ?_ GE350.out | refine below_set ?_ GE356.out | refine below_set ?_ GE362.out | refine below_set ?_ GE366.out | refine below_set ?_ GE370.out) | exact HB.out)) hb); clear BK350; clear BK356; clear BK362; clear BK366; clear BK370; clear HB; have BK350 := n0_; have BK356 := n1_; have BK362 := n2_; have BK366 := n3_; have BK370 := n4_; have HB := n5_; clear n0_ n1_ n2_ n3_ n4_ n5_; (try clear hb); (try clear hb2); (try clear hk); (try clear hi)) | ((with_reducible refine gate_dst (N := 18) rfl ?_); refine box_event ?hg (N := 18) ?hd (cs := #[.int .i64 0, .int .i64 0]) (t := 23) ?hr ?_; (case hd => rfl); (case hg => rfl); (case hr => first | (go_simp; done) | (go_simp; rfl)); intro gb374 hg w59 hbox hb; have n0_ := Aside0.mk (blk_below (g := gb350) (o := .cells #[.int .i64 t347, .int .i64 t348] 23 (0, 0)) (by (with_reducible repeat (first | refine blk_drewN ?_ _ | refine blk_drew ?_ | refine blk_alloc ?_ _)); exact BK350.out) hb); have n1_ := Aside0.mk (blk_below (g := gb356) (o := .cells #[.int .i64 t353, .int .i64 t354] 23 (0, 0)) (by (with_reducible repeat (first | refine blk_drewN ?_ _ | refine blk_drew ?_ | refine blk_alloc ?_ _)); exact BK356.out) hb); have n2_ := Aside0.mk (blk_below (g := gb362) (o := .cells #[.int .i64 t359, .int .i64 t360] 23 (0, 0)) (by (with_reducible repeat (first | refine blk_drewN ?_ _ | refine blk_drew ?_ | refine blk_alloc ?_ _)); exact BK362.out) hb); have n3_ := Aside0.mk (blk_below (g := gb366) (o := .cells #[.int .i64 t363, .int .i64 t364] 23 (0, 0)) (by (with_reducible repeat (first | refine blk_drewN ?_ _ | refine blk_drew ?_ | refine blk_alloc ?_ _)); exact BK366.out) hb); have n4_ := Aside0.mk (blk_below (g := gb370) (o := .cells #[.int .i64 t367, .int .i64 t368] 23 (0, 0)) (by (with_reducible repeat (first | refine blk_drewN ?_ _ | refine blk_drew ?_ | refine blk_alloc ?_ _)); exact BK370.out) hb); have n5_ := Aside0.mk (below_step (by repeat (first | (with_reducible first | exact HB.out | apply below_alloc | apply pw_below_drewN | apply below_drew1 | refine below_set ?_ GE350.out | refine below_set ?_ GE356.out | refine below_set ?_ GE362.out | refine below_set ?_ GE366.out | refine below_set ?_ GE370.out) | exact HB.out)) hb); have n6_ := Aside0.mk (hbox); have n7_ := Aside0.mk ((by rw [hg]; exact (below_size (by repeat (first | (with_reducible first | exact HB.out | apply below_alloc | apply pw_below_drewN | apply below_drew1 | refine below_set ?_ GE350.out | refine below_set ?_ GE356.out | refine below_set ?_ GE362.out | refine below_set ?_ GE366.out | refine below_set ?_ GE370.out) | exact HB.out))) : w.heap.size ≤ gb374)); have n8_ := Aside0.mk ((by rw [hg]; exact (below_size (by repeat (first | (with_reducible first | exact HB.out | apply below_alloc | apply pw_below_drewN | apply below_drew1 | refine below_set ?_ GE350.out | refine below_set ?_ GE356.out | refine below_set ?_ GE362.out | refine below_set ?_ GE366.out | refine below_set ?_ GE370.out) | exact HB.out))) : w.heap.size ≤ gb374)); have n9_ := Aside0.mk ((by rw [hg]; exact Nat.ne_of_lt (blk_lt (g := gb350) (o := .cells #[.int .i64 t347, .int .i64 t348] 23 (0, 0)) (by (with_reducible repeat (first | refine blk_drewN ?_ _ | refine blk_drew ?_ | refine blk_alloc ?_ _)); exact BK350.out)) : gb350 ≠ gb374)); have n10_ := Aside0.mk ((by rw [hg]; exact Nat.ne_of_gt (blk_lt (g := gb350) (o := .cells #[.int .i64 t347, .int .i64 t348] 23 (0, 0)) (by (with_reducible repeat (first | refine blk_drewN ?_ _ | refine blk_drew ?_ | refine blk_alloc ?_ _)); exact BK350.out)) : gb374 ≠ gb350)); have n11_ := Aside0.mk ((by rw [hg]; exact Nat.ne_of_lt (blk_lt (g := gb356) (o := .cells #[.int .i64 t353, .int .i64 t354] 23 (0, 0)) (by (with_reducible repeat (first | refine blk_drewN ?_ _ | refine blk_drew ?_ | refine blk_alloc ?_ _)); exact BK356.out)) : gb356 ≠ gb374)); have n12_ := Aside0.mk ((by rw [hg]; exact Nat.ne_of_gt (blk_lt (g := gb356) (o := .cells #[.int .i64 t353, .int .i64 t354] 23 (0, 0)) (by (with_reducible repeat (first | refine blk_drewN ?_ _ | refine blk_drew ?_ | refine blk_alloc ?_ _)); exact BK356.out)) : gb374 ≠ gb356)); have n13_ := Aside0.mk ((by rw [hg]; exact Nat.ne_of_lt (blk_lt (g := gb362) (o := .cells #[.int .i64 t359, .int .i64 t360] 23 (0, 0)) (by (with_reducible repeat (first | refine blk_drewN ?_ _ | refine blk_drew ?_ | refine blk_alloc ?_ _)); exact BK362.out)) : gb362 ≠ gb374)); have n14_ := Aside0.mk ((by rw [hg]; exact Nat.ne_of_gt (blk_lt (g := gb362) (o := .cells #[.int .i64 t359, .int .i64 t360] 23 (0, 0)) (by (with_reducible repeat (first | refine blk_drewN ?_ _ | refine blk_drew ?_ | refine blk_alloc ?_ _)); exact BK362.out)) : gb374 ≠ gb362)); have n15_ := Aside0.mk ((by rw [hg]; exact Nat.ne_of_lt (blk_lt (g := gb366) (o := .cells #[.int .i64 t363, .int .i64 t364] 23 (0, 0)) (by (with_reducible repeat (first | refine blk_drewN ?_ _ | refine blk_drew ?_ | refine blk_alloc ?_ _)); exact BK366.out)) : gb366 ≠ gb374)); have n16_ := Aside0.mk ((by rw [hg]; exact Nat.ne_of_gt (blk_lt (g := gb366) (o := .cells #[.int .i64 t363, .int .i64 t364] 23 (0, 0)) (by (with_reducible repeat (first | refine blk_drewN ?_ _ | refine blk_drew ?_ | refine blk_alloc ?_ _)); exact BK366.out)) : gb374 ≠ gb366)); have n17_ := Aside0.mk ((by rw [hg]; exact Nat.ne_of_lt (blk_lt (g := gb370) (o := .cells #[.int .i64 t367, .int .i64 t368] 23 (0, 0)) (by (with_reducible repeat (first | refine blk_drewN ?_ _ | refine blk_drew ?_ | refine blk_alloc ?_ _)); exact BK370.out)) : gb370 ≠ gb374)); have n18_ := Aside0.mk ((by rw [hg]; exact Nat.ne_of_gt (blk_lt (g := gb370) (o := .cells #[.int .i64 t367, .int .i64 t368] 23 (0, 0)) (by (with_reducible repeat (first | refine blk_drewN ?_ _ | refine blk_drew ?_ | refine blk_alloc ?_ _)); exact BK370.out)) : gb374 ≠ gb370)); clear BK350; clear BK356; clear BK362; clear BK366; clear BK370; clear HB; have BK350 := n0_; have BK356 := n1_; have BK362 := n2_; have BK366 := n3_; have BK370 := n4_; have HB := n5_; have BK374 := n6_; have GW374 := n7_; have GE374 := n8_; have NB350_374 := n9_; have NB374_350 := n10_; have NB356_374 := n11_; have NB374_356 := n12_; have NB362_374 := n13_; have NB374_362 := n14_; have NB366_374 := n15_; have NB374_366 := n16_; have NB370_374 := n17_; have NB374_370 := n18_; clear n0_ n1_ n2_ n3_ n4_ n5_ n6_ n7_ n8_ n9_ n10_ n11_ n12_ n13_ n14_ n15_ n16_ n17_ n18_; clear hb hbox hg; have hnb60 := NB374_350.out; have hnc60 := NB350_374.out; have hnb61 := NB374_356.out; have hnc61 := NB356_374.out; have hnb62 := NB374_362.out; have hnc62 := NB362_374.out; have hnb63 := NB374_366.out; have hnc63 := NB366_374.out; have hnb64 := NB374_370.out; have hnc64 := NB370_374.out; have hcz65_0 : w59.cell? ⟨gb374, 0, none⟩ = some (.int .i64 0) := (blk_cell BK374.out 0).trans rfl; have hcz65_1 : w59.cell? ⟨gb374, 1, none⟩ = some (.int .i64 0) := (blk_cell BK374.out 1).trans rfl; have hfz65_0 := blk_frozen BK374.out 0; have hfz65_1 := blk_frozen BK374.out 1; have hcz66_0 : w59.cell? ⟨gb350, 0, none⟩ = some (.int .i64 t347) := (blk_cell BK350.out 0).trans rfl; have hcz66_1 : w59.cell? ⟨gb350, 1, none⟩ = some (.int .i64 t348) := (blk_cell BK350.out 1).trans rfl; have hfz66_0 := blk_frozen BK350.out 0; have hfz66_1 := blk_frozen BK350.out 1) | ((with_reducible refine gate_callee (f := 40) rfl ?_); refine goesL_ (some 75) rfl rfl Try.func40 (by kernel_rfl) rfl #[.agg #[.int .i64 t347, .int .i64 t348], .agg #[.int .i64 t371, .int .i64 t372], .int .i64 (wrap64 ((l1.length : Int) + (l2.length : Int)))] rfl (by (try simp only [List.map_toArray, List.map_cons, List.map_nil]); first | done | rfl | (simp only [List.length_drop, List.length_take]; rfl)) ?_; (with_reducible refine (seal_Join.calls t347 t348 t371 t372 (wrap64 ((l1.length : Int) + (l2.length : Int))) t375 t376 t377 _ A14.out).mono ?_); rintro e w67 ⟨rfl, hb⟩; refine ⟨_, rfl, ?_⟩; have n0_ := Aside0.mk (blk_below (g := gb350) (o := .cells #[.int .i64 t347, .int .i64 t348] 23 (0, 0)) (by (with_reducible repeat (first | refine blk_drewN ?_ _ | refine blk_drew ?_ | refine blk_alloc ?_ _)); refine blk_far ?_ NB350_374.out _; (with_reducible repeat (first | refine blk_drewN ?_ _ | refine blk_drew ?_ | refine blk_alloc ?_ _)); refine blk_far ?_ NB350_374.out _; (with_reducible repeat (first | refine blk_drewN ?_ _ | refine blk_drew ?_ | refine blk_alloc ?_ _)); exact BK350.out) hb); have n1_ := Aside0.mk (blk_below (g := gb356) (o := .cells #[.int .i64 t353, .int .i64 t354] 23 (0, 0)) (by (with_reducible repeat (first | refine blk_drewN ?_ _ | refine blk_drew ?_ | refine blk_alloc ?_ _)); refine blk_far ?_ NB356_374.out _; (with_reducible repeat (first | refine blk_drewN ?_ _ | refine blk_drew ?_ | refine blk_alloc ?_ _)); refine blk_far ?_ NB356_374.out _; (with_reducible repeat (first | refine blk_drewN ?_ _ | refine blk_drew ?_ | refine blk_alloc ?_ _)); exact BK356.out) hb); have n2_ := Aside0.mk (blk_below (g := gb362) (o := .cells #[.int .i64 t359, .int .i64 t360] 23 (0, 0)) (by (with_reducible repeat (first | refine blk_drewN ?_ _ | refine blk_drew ?_ | refine blk_alloc ?_ _)); refine blk_far ?_ NB362_374.out _; (with_reducible repeat (first | refine blk_drewN ?_ _ | refine blk_drew ?_ | refine blk_alloc ?_ _)); refine blk_far ?_ NB362_374.out _; (with_reducible repeat (first | refine blk_drewN ?_ _ | refine blk_drew ?_ | refine blk_alloc ?_ _)); exact BK362.out) hb); have n3_ := Aside0.mk (blk_below (g := gb366) (o := .cells #[.int .i64 t363, .int .i64 t364] 23 (0, 0)) (by (with_reducible repeat (first | refine blk_drewN ?_ _ | refine blk_drew ?_ | refine blk_alloc ?_ _)); refine blk_far ?_ NB366_374.out _; (with_reducible repeat (first | refine blk_drewN ?_ _ | refine blk_drew ?_ | refine blk_alloc ?_ _)); refine blk_far ?_ NB366_374.out _; (with_reducible repeat (first | refine blk_drewN ?_ _ | refine blk_drew ?_ | refine blk_alloc ?_ _)); exact BK366.out) hb); have n4_ := Aside0.mk (blk_below (g := gb370) (o := .cells #[.int .i64 t367, .int .i64 t368] 23 (0, 0)) (by (with_reducible repeat (first | refine blk_drewN ?_ _ | refine blk_drew ?_ | refine blk_alloc ?_ _)); refine blk_far ?_ NB370_374.out _; (with_reducible repeat (first | refine blk_drewN ?_ _ | refine blk_drew ?_ | refine blk_alloc ?_ _)); refine blk_far ?_ NB370_374.out _; (with_reducible repeat (first | refine blk_drewN ?_ _ | refine blk_drew ?_ | refine blk_alloc ?_ _)); exact BK370.out) hb); have n5_ := Aside0.mk (blk_below (g := gb374) (o := .cells #[.int .i64 t371, .int .i64 t372] 23 (0, 0)) (by (with_reducible repeat (first | refine blk_drewN ?_ _ | refine blk_drew ?_ | refine blk_alloc ?_ _)); refine blk_put (cs := #[.int .i64 t371, .int .i64 0]) ?_ 1 _ rfl; (with_reducible repeat (first | refine blk_drewN ?_ _ | refine blk_drew ?_ | refine blk_alloc ?_ _)); refine blk_put (cs := #[.int .i64 0, .int .i64 0]) ?_ 0 _ rfl; (with_reducible repeat (first | refine blk_drewN ?_ _ | refine blk_drew ?_ | refine blk_alloc ?_ _)); exact BK374.out) hb); have n6_ := Aside0.mk (below_step (by repeat (first | (with_reducible first | exact HB.out | apply below_alloc | apply pw_below_drewN | apply below_drew1 | refine below_set ?_ GE350.out | refine below_set ?_ GE356.out | refine below_set ?_ GE362.out | refine below_set ?_ GE366.out | refine below_set ?_ GE370.out | refine below_set ?_ GE374.out) | exact HB.out)) hb); clear BK350; clear BK356; clear BK362; clear BK366; clear BK370; clear BK374; clear HB; have BK350 := n0_; have BK356 := n1_; have BK362 := n2_; have BK366 := n3_; have BK370 := n4_; have BK374 := n5_; have HB := n6_; clear n0_ n1_ n2_ n3_ n4_ n5_ n6_; (try clear hb); (try clear hb2); (try clear hk); (try clear hi)) | ((with_reducible refine gate_dst (N := 20) rfl ?_); refine box_event ?hg (N := 20) ?hd (cs := #[.int .i64 0, .int .i64 0]) (t := 23) ?hr ?_; (case hd => rfl); (case hg => rfl); (case hr => first | (go_simp; done) | (go_simp; rfl)); intro gb378 hg w68 hbox hb; have n0_ := Aside0.mk (blk_below (g := gb350) (o := .cells #[.int .i64 t347, .int .i64 t348] 23 (0, 0)) (by (with_reducible repeat (first | refine blk_drewN ?_ _ | refine blk_drew ?_ | refine blk_alloc ?_ _)); exact BK350.out) hb); have n1_ := Aside0.mk (blk_below (g := gb356) (o := .cells #[.int .i64 t353, .int .i64 t354] 23 (0, 0)) (by (with_reducible repeat (first | refine blk_drewN ?_ _ | refine blk_drew ?_ | refine blk_alloc ?_ _)); exact BK356.out) hb); have n2_ := Aside0.mk (blk_below (g := gb362) (o := .cells #[.int .i64 t359, .int .i64 t360] 23 (0, 0)) (by (with_reducible repeat (first | refine blk_drewN ?_ _ | refine blk_drew ?_ | refine blk_alloc ?_ _)); exact BK362.out) hb); have n3_ := Aside0.mk (blk_below (g := gb366) (o := .cells #[.int .i64 t363, .int .i64 t364] 23 (0, 0)) (by (with_reducible repeat (first | refine blk_drewN ?_ _ | refine blk_drew ?_ | refine blk_alloc ?_ _)); exact BK366.out) hb); have n4_ := Aside0.mk (blk_below (g := gb370) (o := .cells #[.int .i64 t367, .int .i64 t368] 23 (0, 0)) (by (with_reducible repeat (first | refine blk_drewN ?_ _ | refine blk_drew ?_ | refine blk_alloc ?_ _)); exact BK370.out) hb); have n5_ := Aside0.mk (blk_below (g := gb374) (o := .cells #[.int .i64 t371, .int .i64 t372] 23 (0, 0)) (by (with_reducible repeat (first | refine blk_drewN ?_ _ | refine blk_drew ?_ | refine blk_alloc ?_ _)); exact BK374.out) hb); have n6_ := Aside0.mk (below_step (by repeat (first | (with_reducible first | exact HB.out | apply below_alloc | apply pw_below_drewN | apply below_drew1 | refine below_set ?_ GE350.out | refine below_set ?_ GE356.out | refine below_set ?_ GE362.out | refine below_set ?_ GE366.out | refine below_set ?_ GE370.out | refine below_set ?_ GE374.out) | exact HB.out)) hb); have n7_ := Aside0.mk (hbox); have n8_ := Aside0.mk ((by rw [hg]; exact (below_size (by repeat (first | (with_reducible first | exact HB.out | apply below_alloc | apply pw_below_drewN | apply below_drew1 | refine below_set ?_ GE350.out | refine below_set ?_ GE356.out | refine below_set ?_ GE362.out | refine below_set ?_ GE366.out | refine below_set ?_ GE370.out | refine below_set ?_ GE374.out) | exact HB.out))) : w.heap.size ≤ gb378)); have n9_ := Aside0.mk ((by rw [hg]; exact (below_size (by repeat (first | (with_reducible first | exact HB.out | apply below_alloc | apply pw_below_drewN | apply below_drew1 | refine below_set ?_ GE350.out | refine below_set ?_ GE356.out | refine below_set ?_ GE362.out | refine below_set ?_ GE366.out | refine below_set ?_ GE370.out | refine below_set ?_ GE374.out) | exact HB.out))) : w.heap.size ≤ gb378)); have n10_ := Aside0.mk ((by rw [hg]; exact Nat.ne_of_lt (blk_lt (g := gb350) (o := .cells #[.int .i64 t347, .int .i64 t348] 23 (0, 0)) (by (with_reducible repeat (first | refine blk_drewN ?_ _ | refine blk_drew ?_ | refine blk_alloc ?_ _)); exact BK350.out)) : gb350 ≠ gb378)); have n11_ := Aside0.mk ((by rw [hg]; exact Nat.ne_of_gt (blk_lt (g := gb350) (o := .cells #[.int .i64 t347, .int .i64 t348] 23 (0, 0)) (by (with_reducible repeat (first | refine blk_drewN ?_ _ | refine blk_drew ?_ | refine blk_alloc ?_ _)); exact BK350.out)) : gb378 ≠ gb350)); have n12_ := Aside0.mk ((by rw [hg]; exact Nat.ne_of_lt (blk_lt (g := gb356) (o := .cells #[.int .i64 t353, .int .i64 t354] 23 (0, 0)) (by (with_reducible repeat (first | refine blk_drewN ?_ _ | refine blk_drew ?_ | refine blk_alloc ?_ _)); exact BK356.out)) : gb356 ≠ gb378)); have n13_ := Aside0.mk ((by rw [hg]; exact Nat.ne_of_gt (blk_lt (g := gb356) (o := .cells #[.int .i64 t353, .int .i64 t354] 23 (0, 0)) (by (with_reducible repeat (first | refine blk_drewN ?_ _ | refine blk_drew ?_ | refine blk_alloc ?_ _)); exact BK356.out)) : gb378 ≠ gb356)); have n14_ := Aside0.mk ((by rw [hg]; exact Nat.ne_of_lt (blk_lt (g := gb362) (o := .cells #[.int .i64 t359, .int .i64 t360] 23 (0, 0)) (by (with_reducible repeat (first | refine blk_drewN ?_ _ | refine blk_drew ?_ | refine blk_alloc ?_ _)); exact BK362.out)) : gb362 ≠ gb378)); have n15_ := Aside0.mk ((by rw [hg]; exact Nat.ne_of_gt (blk_lt (g := gb362) (o := .cells #[.int .i64 t359, .int .i64 t360] 23 (0, 0)) (by (with_reducible repeat (first | refine blk_drewN ?_ _ | refine blk_drew ?_ | refine blk_alloc ?_ _)); exact BK362.out)) : gb378 ≠ gb362)); have n16_ := Aside0.mk ((by rw [hg]; exact Nat.ne_of_lt (blk_lt (g := gb366) (o := .cells #[.int .i64 t363, .int .i64 t364] 23 (0, 0)) (by (with_reducible repeat (first | refine blk_drewN ?_ _ | refine blk_drew ?_ | refine blk_alloc ?_ _)); exact BK366.out)) : gb366 ≠ gb378)); have n17_ := Aside0.mk ((by rw [hg]; exact Nat.ne_of_gt (blk_lt (g := gb366) (o := .cells #[.int .i64 t363, .int .i64 t364] 23 (0, 0)) (by (with_reducible repeat (first | refine blk_drewN ?_ _ | refine blk_drew ?_ | refine blk_alloc ?_ _)); exact BK366.out)) : gb378 ≠ gb366)); have n18_ := Aside0.mk ((by rw [hg]; exact Nat.ne_of_lt (blk_lt (g := gb370) (o := .cells #[.int .i64 t367, .int .i64 t368] 23 (0, 0)) (by (with_reducible repeat (first | refine blk_drewN ?_ _ | refine blk_drew ?_ | refine blk_alloc ?_ _)); exact BK370.out)) : gb370 ≠ gb378)); have n19_ := Aside0.mk ((by rw [hg]; exact Nat.ne_of_gt (blk_lt (g := gb370) (o := .cells #[.int .i64 t367, .int .i64 t368] 23 (0, 0)) (by (with_reducible repeat (first | refine blk_drewN ?_ _ | refine blk_drew ?_ | refine blk_alloc ?_ _)); exact BK370.out)) : gb378 ≠ gb370)); have n20_ := Aside0.mk ((by rw [hg]; exact Nat.ne_of_lt (blk_lt (g := gb374) (o := .cells #[.int .i64 t371, .int .i64 t372] 23 (0, 0)) (by (with_reducible repeat (first | refine blk_drewN ?_ _ | refine blk_drew ?_ | refine blk_alloc ?_ _)); exact BK374.out)) : gb374 ≠ gb378)); have n21_ := Aside0.mk ((by rw [hg]; exact Nat.ne_of_gt (blk_lt (g := gb374) (o := .cells #[.int .i64 t371, .int .i64 t372] 23 (0, 0)) (by (with_reducible repeat (first | refine blk_drewN ?_ _ | refine blk_drew ?_ | refine blk_alloc ?_ _)); exact BK374.out)) : gb378 ≠ gb374)); clear BK350; clear BK356; clear BK362; clear BK366; clear BK370; clear BK374; clear HB; have BK350 := n0_; have BK356 := n1_; have BK362 := n2_; have BK366 := n3_; have BK370 := n4_; have BK374 := n5_; have HB := n6_; have BK378 := n7_; have GW378 := n8_; have GE378 := n9_; have NB350_378 := n10_; have NB378_350 := n11_; have NB356_378 := n12_; have NB378_356 := n13_; have NB362_378 := n14_; have NB378_362 := n15_; have NB366_378 := n16_; have NB378_366 := n17_; have NB370_378 := n18_; have NB378_370 := n19_; have NB374_378 := n20_; have NB378_374 := n21_; clear n0_ n1_ n2_ n3_ n4_ n5_ n6_ n7_ n8_ n9_ n10_ n11_ n12_ n13_ n14_ n15_ n16_ n17_ n18_ n19_ n20_ n21_; clear hb hbox hg; have hnb69 := NB378_350.out; have hnc69 := NB350_378.out; have hnb70 := NB378_356.out; have hnc70 := NB356_378.out; have hnb71 := NB378_362.out; have hnc71 := NB362_378.out; have hnb72 := NB378_366.out; have hnc72 := NB366_378.out; have hnb73 := NB378_370.out; have hnc73 := NB370_378.out; have hnb74 := NB378_374.out; have hnc74 := NB374_378.out; have hcz75_0 : w68.cell? ⟨gb378, 0, none⟩ = some (.int .i64 0) := (blk_cell BK378.out 0).trans rfl; have hcz75_1 : w68.cell? ⟨gb378, 1, none⟩ = some (.int .i64 0) := (blk_cell BK378.out 1).trans rfl; have hfz75_0 := blk_frozen BK378.out 0; have hfz75_1 := blk_frozen BK378.out 1))
                have n0_ : Aside0 (((w68.setCell ⟨gb378, 0, none⟩ (.int .i64 t375)).setCell ⟨gb378, 1, none⟩ (.int .i64 t376)).heap[gb350]? = some (.cells #[.int .i64 t347, .int .i64 t348] 23 (0, 0))) := ⟨by (with_reducible repeat (first | refine blk_drewN ?_ _ | refine blk_drew ?_ | refine blk_alloc ?_ _)); refine blk_far ?_ NB350_378.out _; (with_reducible repeat (first | refine blk_drewN ?_ _ | refine blk_drew ?_ | refine blk_alloc ?_ _)); refine blk_far ?_ NB350_378.out _; (with_reducible repeat (first | refine blk_drewN ?_ _ | refine blk_drew ?_ | refine blk_alloc ?_ _)); exact BK350.out⟩
                have n1_ : Aside0 (((w68.setCell ⟨gb378, 0, none⟩ (.int .i64 t375)).setCell ⟨gb378, 1, none⟩ (.int .i64 t376)).heap[gb356]? = some (.cells #[.int .i64 t353, .int .i64 t354] 23 (0, 0))) := ⟨by (with_reducible repeat (first | refine blk_drewN ?_ _ | refine blk_drew ?_ | refine blk_alloc ?_ _)); refine blk_far ?_ NB356_378.out _; (with_reducible repeat (first | refine blk_drewN ?_ _ | refine blk_drew ?_ | refine blk_alloc ?_ _)); refine blk_far ?_ NB356_378.out _; (with_reducible repeat (first | refine blk_drewN ?_ _ | refine blk_drew ?_ | refine blk_alloc ?_ _)); exact BK356.out⟩
                have n2_ : Aside0 (((w68.setCell ⟨gb378, 0, none⟩ (.int .i64 t375)).setCell ⟨gb378, 1, none⟩ (.int .i64 t376)).heap[gb362]? = some (.cells #[.int .i64 t359, .int .i64 t360] 23 (0, 0))) := ⟨by (with_reducible repeat (first | refine blk_drewN ?_ _ | refine blk_drew ?_ | refine blk_alloc ?_ _)); refine blk_far ?_ NB362_378.out _; (with_reducible repeat (first | refine blk_drewN ?_ _ | refine blk_drew ?_ | refine blk_alloc ?_ _)); refine blk_far ?_ NB362_378.out _; (with_reducible repeat (first | refine blk_drewN ?_ _ | refine blk_drew ?_ | refine blk_alloc ?_ _)); exact BK362.out⟩
                have n3_ : Aside0 (((w68.setCell ⟨gb378, 0, none⟩ (.int .i64 t375)).setCell ⟨gb378, 1, none⟩ (.int .i64 t376)).heap[gb366]? = some (.cells #[.int .i64 t363, .int .i64 t364] 23 (0, 0))) := ⟨by (with_reducible repeat (first | refine blk_drewN ?_ _ | refine blk_drew ?_ | refine blk_alloc ?_ _)); refine blk_far ?_ NB366_378.out _; (with_reducible repeat (first | refine blk_drewN ?_ _ | refine blk_drew ?_ | refine blk_alloc ?_ _)); refine blk_far ?_ NB366_378.out _; (with_reducible repeat (first | refine blk_drewN ?_ _ | refine blk_drew ?_ | refine blk_alloc ?_ _)); exact BK366.out⟩
                have n4_ : Aside0 (((w68.setCell ⟨gb378, 0, none⟩ (.int .i64 t375)).setCell ⟨gb378, 1, none⟩ (.int .i64 t376)).heap[gb370]? = some (.cells #[.int .i64 t367, .int .i64 t368] 23 (0, 0))) := ⟨by (with_reducible repeat (first | refine blk_drewN ?_ _ | refine blk_drew ?_ | refine blk_alloc ?_ _)); refine blk_far ?_ NB370_378.out _; (with_reducible repeat (first | refine blk_drewN ?_ _ | refine blk_drew ?_ | refine blk_alloc ?_ _)); refine blk_far ?_ NB370_378.out _; (with_reducible repeat (first | refine blk_drewN ?_ _ | refine blk_drew ?_ | refine blk_alloc ?_ _)); exact BK370.out⟩
                have n5_ : Aside0 (((w68.setCell ⟨gb378, 0, none⟩ (.int .i64 t375)).setCell ⟨gb378, 1, none⟩ (.int .i64 t376)).heap[gb374]? = some (.cells #[.int .i64 t371, .int .i64 t372] 23 (0, 0))) := ⟨by (with_reducible repeat (first | refine blk_drewN ?_ _ | refine blk_drew ?_ | refine blk_alloc ?_ _)); refine blk_far ?_ NB374_378.out _; (with_reducible repeat (first | refine blk_drewN ?_ _ | refine blk_drew ?_ | refine blk_alloc ?_ _)); refine blk_far ?_ NB374_378.out _; (with_reducible repeat (first | refine blk_drewN ?_ _ | refine blk_drew ?_ | refine blk_alloc ?_ _)); exact BK374.out⟩
                have n6_ : Aside0 (((w68.setCell ⟨gb378, 0, none⟩ (.int .i64 t375)).setCell ⟨gb378, 1, none⟩ (.int .i64 t376)).heap[gb378]? = some (.cells #[.int .i64 t375, .int .i64 t376] 23 (0, 0))) := ⟨by (with_reducible repeat (first | refine blk_drewN ?_ _ | refine blk_drew ?_ | refine blk_alloc ?_ _)); refine blk_put (cs := #[.int .i64 t375, .int .i64 0]) ?_ 1 _ rfl; (with_reducible repeat (first | refine blk_drewN ?_ _ | refine blk_drew ?_ | refine blk_alloc ?_ _)); refine blk_put (cs := #[.int .i64 0, .int .i64 0]) ?_ 0 _ rfl; (with_reducible repeat (first | refine blk_drewN ?_ _ | refine blk_drew ?_ | refine blk_alloc ?_ _)); exact BK378.out⟩
                have n7_ : Aside0 (Below w.heap.size w ((w68.setCell ⟨gb378, 0, none⟩ (.int .i64 t375)).setCell ⟨gb378, 1, none⟩ (.int .i64 t376))) := ⟨by repeat (first | (with_reducible first | exact HB.out | apply below_alloc | apply pw_below_drewN | apply below_drew1 | refine below_set ?_ GE350.out | refine below_set ?_ GE356.out | refine below_set ?_ GE362.out | refine below_set ?_ GE366.out | refine below_set ?_ GE370.out | refine below_set ?_ GE374.out | refine below_set ?_ GE378.out) | exact HB.out)⟩
                (try clear BK350)
                (try clear BK356)
                (try clear BK362)
                (try clear BK366)
                (try clear BK370)
                (try clear BK374)
                (try clear BK378)
                (try clear HB)
                generalize ((w68.setCell ⟨gb378, 0, none⟩ (.int .i64 t375)).setCell ⟨gb378, 1, none⟩ (.int .i64 t376)) = w76 at n0_ n1_ n2_ n3_ n4_ n5_ n6_ n7_ ⊢
                have BK350 := n0_
                have BK356 := n1_
                have BK362 := n2_
                have BK366 := n3_
                have BK370 := n4_
                have BK374 := n5_
                have BK378 := n6_
                have HB := n7_
                clear n0_ n1_ n2_ n3_ n4_ n5_ n6_ n7_
                have n0_ := Aside0.mk (blk_drew BK350.out)
                have n1_ := Aside0.mk (blk_drew BK356.out)
                have n2_ := Aside0.mk (blk_drew BK362.out)
                have n3_ := Aside0.mk (blk_drew BK366.out)
                have n4_ := Aside0.mk (blk_drew BK370.out)
                have n5_ := Aside0.mk (blk_drew BK374.out)
                have n6_ := Aside0.mk (blk_drew BK378.out)
                have n7_ := Aside0.mk (below_drew1 HB.out)
                clear BK350
                clear BK356
                clear BK362
                clear BK366
                clear BK370
                clear BK374
                clear BK378
                clear HB
                have BK350 := n0_
                have BK356 := n1_
                have BK362 := n2_
                have BK366 := n3_
                have BK370 := n4_
                have BK374 := n5_
                have BK378 := n6_
                have HB := n7_
                clear n0_ n1_ n2_ n3_ n4_ n5_ n6_ n7_
                refine start_ (n := 9) (S := fun w' => w'.cell? ⟨gb350, 0, none⟩ = some (.int .i64 t347) ∧ w'.cell? ⟨gb350, 1, none⟩ = some (.int .i64 t348)) (ds := []) #[false, false, false, false, false, false, false, false, false] (by kernel_rfl) rfl rfl ⟨(blk_cell BK350.out 0).trans rfl, (blk_cell BK350.out 1).trans rfl⟩ (fun hHeld => ?_); refine with_tabW reevelaw02_SealParts.tab9 reevelaw02_SealParts.bits9 (fun HT_ HW_ => ?_)
                generalize w76.drew = w77 at BK350 BK356 BK362 BK366 BK370 BK374 BK378 HB hHeld ⊢
                refine take_ (i := 0) (N := some 79) (v := ?_) (a' := ?_) #[true, false, false, false, false, false, false, false, false] rfl rfl (take_ofW HT_.out HW_.out (by kernel_rfl)) (fun _ _ _ h => h) (Or.inl ⟨by rfl, ?_⟩) hHeld ?_ ?_
                rotate_left
                · rintro w' ⟨s0, s1⟩
                  go_simp
                  with_reducible rfl
                rotate_left
                · simp only [Act.put, List.setIfInBounds_toArray, List.set_cons_zero, List.set_cons_succ, i64_w, i32_w]
                  rfl
                refine join_ (σ := Nat) 2 #[true, true, true, true, true, true, true, false, false] (fun s_ => [(80, .agg #[.int .i64 t379, .int .i64 t380]), (81, .tuple #[.agg #[.int .i64 t381, .int .i64 t382], .int .i64 t383]), (22, .pointer (some ⟨s_, 0, none⟩)), (78, .tuple #[.agg #[.int .i64 t381, .int .i64 t382], .int .i64 t383]), (82, .agg #[.int .i64 t381, .int .i64 t382]), (83, .int .i64 t383)]) (fun s_ w' => (w'.cell? ⟨gb350, 0, none⟩ = some (.int .i64 t347) ∧ w'.cell? ⟨gb350, 1, none⟩ = some (.int .i64 t348)) ∧ (w'.heap[gb350]? = some (.cells #[.int .i64 t347, .int .i64 t348] 23 (0, 0))) ∧ (w'.heap[gb356]? = some (.cells #[.int .i64 t353, .int .i64 t354] 23 (0, 0))) ∧ (w'.heap[gb362]? = some (.cells #[.int .i64 t359, .int .i64 t360] 23 (0, 0))) ∧ (w'.heap[gb366]? = some (.cells #[.int .i64 t363, .int .i64 t364] 23 (0, 0))) ∧ (w'.heap[gb370]? = some (.cells #[.int .i64 t367, .int .i64 t368] 23 (0, 0))) ∧ (w'.heap[gb374]? = some (.cells #[.int .i64 t371, .int .i64 t372] 23 (0, 0))) ∧ (w'.heap[gb378]? = some (.cells #[.int .i64 t375, .int .i64 t376] 23 (0, 0))) ∧ (w'.heap[s_]? = some (.cells #[.int .i64 0, .int .i64 0] 23 (0, 0))) ∧ (w.heap.size ≤ s_) ∧ (w.heap.size ≤ s_) ∧ (gb350 ≠ s_) ∧ (s_ ≠ gb350) ∧ (gb356 ≠ s_) ∧ (s_ ≠ gb356) ∧ (gb362 ≠ s_) ∧ (s_ ≠ gb362) ∧ (gb366 ≠ s_) ∧ (s_ ≠ gb366) ∧ (gb370 ≠ s_) ∧ (s_ ≠ gb370) ∧ (gb374 ≠ s_) ∧ (s_ ≠ gb374) ∧ (gb378 ≠ s_) ∧ (s_ ≠ gb378) ∧ (Below w.heap.size w w')) ?_ ?_
                rotate_left
                · intro hCont
                  refine two_ (i := 1) (j := 6) (Ni := some 80) (Nj := some 22) #[true, true, false, false, false, false, false, false, false] #[true, false, false, false, false, false, true, false, false] rfl rfl rfl rfl (two_of HT_.out (by kernel_rfl)) (by decide) (by decide) (fun K hK => ?_) (fun K hK => ?_)
                  · skip
                    refine goes_ Try.func31 (by kernel_rfl) rfl #[] (by rfl) rfl rfl (by (try simp only [List.map_toArray, List.map_cons, List.map_nil]); first | done | rfl | (simp only [List.length_drop, List.length_take]; rfl)) ?_
                    with_reducible refine (seal_Start.calls  t379 t380 _ A15.out).mono ?_
                    rintro e w78 ⟨rfl, hb⟩
                    refine ⟨_, rfl, ?_⟩
                    have n0_ := Aside0.mk (blk_below (g := gb350) (o := .cells #[.int .i64 t347, .int .i64 t348] 23 (0, 0)) (by (with_reducible repeat (first | refine blk_drewN ?_ _ | refine blk_drew ?_ | refine blk_alloc ?_ _)); exact BK350.out) hb)
                    have n1_ := Aside0.mk (blk_below (g := gb356) (o := .cells #[.int .i64 t353, .int .i64 t354] 23 (0, 0)) (by (with_reducible repeat (first | refine blk_drewN ?_ _ | refine blk_drew ?_ | refine blk_alloc ?_ _)); exact BK356.out) hb)
                    have n2_ := Aside0.mk (blk_below (g := gb362) (o := .cells #[.int .i64 t359, .int .i64 t360] 23 (0, 0)) (by (with_reducible repeat (first | refine blk_drewN ?_ _ | refine blk_drew ?_ | refine blk_alloc ?_ _)); exact BK362.out) hb)
                    have n3_ := Aside0.mk (blk_below (g := gb366) (o := .cells #[.int .i64 t363, .int .i64 t364] 23 (0, 0)) (by (with_reducible repeat (first | refine blk_drewN ?_ _ | refine blk_drew ?_ | refine blk_alloc ?_ _)); exact BK366.out) hb)
                    have n4_ := Aside0.mk (blk_below (g := gb370) (o := .cells #[.int .i64 t367, .int .i64 t368] 23 (0, 0)) (by (with_reducible repeat (first | refine blk_drewN ?_ _ | refine blk_drew ?_ | refine blk_alloc ?_ _)); exact BK370.out) hb)
                    have n5_ := Aside0.mk (blk_below (g := gb374) (o := .cells #[.int .i64 t371, .int .i64 t372] 23 (0, 0)) (by (with_reducible repeat (first | refine blk_drewN ?_ _ | refine blk_drew ?_ | refine blk_alloc ?_ _)); exact BK374.out) hb)
                    have n6_ := Aside0.mk (blk_below (g := gb378) (o := .cells #[.int .i64 t375, .int .i64 t376] 23 (0, 0)) (by (with_reducible repeat (first | refine blk_drewN ?_ _ | refine blk_drew ?_ | refine blk_alloc ?_ _)); exact BK378.out) hb)
                    have n7_ := Aside0.mk (below_step (by repeat (first | (with_reducible first | exact HB.out | apply below_alloc | apply pw_below_drewN | apply below_drew1 | refine below_set ?_ GE350.out | refine below_set ?_ GE356.out | refine below_set ?_ GE362.out | refine below_set ?_ GE366.out | refine below_set ?_ GE370.out | refine below_set ?_ GE374.out | refine below_set ?_ GE378.out) | exact HB.out)) hb)
                    clear BK350
                    clear BK356
                    clear BK362
                    clear BK366
                    clear BK370
                    clear BK374
                    clear BK378
                    clear HB
                    have BK350 := n0_
                    have BK356 := n1_
                    have BK362 := n2_
                    have BK366 := n3_
                    have BK370 := n4_
                    have BK374 := n5_
                    have BK378 := n6_
                    have HB := n7_
                    clear n0_ n1_ n2_ n3_ n4_ n5_ n6_ n7_
                    (try clear hb)
                    (try clear hb2)
                    (try clear hk)
                    (try clear hi)
                    refine hK.out _ _ ⟨(blk_cell BK350.out 0).trans rfl, (blk_cell BK350.out 1).trans rfl⟩ (fun hHeld => ?_)
                    clear hK K
                    refine norm_ (a' := ?_) ?_ ?_
                    rotate_left
                    · show Act.put _ (some 80) _ = _
                      simp only [Act.put, List.setIfInBounds_toArray, List.set_cons_zero, List.set_cons_succ, i64_w, i32_w]
                      rfl
                    refine two_ (i := 2) (j := 6) (Ni := some 81) (Nj := some 22) #[true, true, true, false, false, false, false, false, false] #[true, true, false, false, false, false, true, false, false] rfl rfl rfl rfl (two_of HT_.out (by kernel_rfl)) (by decide) (by decide) (fun K hK => ?_) (fun K hK => ?_)
                    · skip
                      refine goes_ Try.func40 (by kernel_rfl) rfl #[.agg #[.int .i64 t347, .int .i64 t348], .agg #[.int .i64 t379, .int .i64 t380], .int .i64 0] (by rfl) rfl rfl (by (try simp only [List.map_toArray, List.map_cons, List.map_nil]); first | done | rfl | (simp only [List.length_drop, List.length_take]; rfl)) ?_
                      with_reducible refine (seal_Join.calls t347 t348 t379 t380 0 t381 t382 t383 _ A16.out).mono ?_
                      rintro e w79 ⟨rfl, hb⟩
                      refine ⟨_, rfl, ?_⟩
                      have n0_ := Aside0.mk (blk_below (g := gb350) (o := .cells #[.int .i64 t347, .int .i64 t348] 23 (0, 0)) (by (with_reducible repeat (first | refine blk_drewN ?_ _ | refine blk_drew ?_ | refine blk_alloc ?_ _)); exact BK350.out) hb)
                      have n1_ := Aside0.mk (blk_below (g := gb356) (o := .cells #[.int .i64 t353, .int .i64 t354] 23 (0, 0)) (by (with_reducible repeat (first | refine blk_drewN ?_ _ | refine blk_drew ?_ | refine blk_alloc ?_ _)); exact BK356.out) hb)
                      have n2_ := Aside0.mk (blk_below (g := gb362) (o := .cells #[.int .i64 t359, .int .i64 t360] 23 (0, 0)) (by (with_reducible repeat (first | refine blk_drewN ?_ _ | refine blk_drew ?_ | refine blk_alloc ?_ _)); exact BK362.out) hb)
                      have n3_ := Aside0.mk (blk_below (g := gb366) (o := .cells #[.int .i64 t363, .int .i64 t364] 23 (0, 0)) (by (with_reducible repeat (first | refine blk_drewN ?_ _ | refine blk_drew ?_ | refine blk_alloc ?_ _)); exact BK366.out) hb)
                      have n4_ := Aside0.mk (blk_below (g := gb370) (o := .cells #[.int .i64 t367, .int .i64 t368] 23 (0, 0)) (by (with_reducible repeat (first | refine blk_drewN ?_ _ | refine blk_drew ?_ | refine blk_alloc ?_ _)); exact BK370.out) hb)
                      have n5_ := Aside0.mk (blk_below (g := gb374) (o := .cells #[.int .i64 t371, .int .i64 t372] 23 (0, 0)) (by (with_reducible repeat (first | refine blk_drewN ?_ _ | refine blk_drew ?_ | refine blk_alloc ?_ _)); exact BK374.out) hb)
                      have n6_ := Aside0.mk (blk_below (g := gb378) (o := .cells #[.int .i64 t375, .int .i64 t376] 23 (0, 0)) (by (with_reducible repeat (first | refine blk_drewN ?_ _ | refine blk_drew ?_ | refine blk_alloc ?_ _)); exact BK378.out) hb)
                      have n7_ := Aside0.mk (below_step (by repeat (first | (with_reducible first | exact HB.out | apply below_alloc | apply pw_below_drewN | apply below_drew1 | refine below_set ?_ GE350.out | refine below_set ?_ GE356.out | refine below_set ?_ GE362.out | refine below_set ?_ GE366.out | refine below_set ?_ GE370.out | refine below_set ?_ GE374.out | refine below_set ?_ GE378.out) | exact HB.out)) hb)
                      clear BK350
                      clear BK356
                      clear BK362
                      clear BK366
                      clear BK370
                      clear BK374
                      clear BK378
                      clear HB
                      have BK350 := n0_
                      have BK356 := n1_
                      have BK362 := n2_
                      have BK366 := n3_
                      have BK370 := n4_
                      have BK374 := n5_
                      have BK378 := n6_
                      have HB := n7_
                      clear n0_ n1_ n2_ n3_ n4_ n5_ n6_ n7_
                      (try clear hb)
                      (try clear hb2)
                      (try clear hk)
                      (try clear hi)
                      refine hK.out _ _ ⟨(blk_cell BK350.out 0).trans rfl, (blk_cell BK350.out 1).trans rfl⟩ (fun hHeld => ?_)
                      clear hK K
                      refine norm_ (a' := ?_) ?_ ?_
                      rotate_left
                      · show Act.put _ (some 81) _ = _
                        simp only [Act.put, List.setIfInBounds_toArray, List.set_cons_zero, List.set_cons_succ, i64_w, i32_w]
                        rfl
                      refine pure_ (i := 3) (N := some 78) (v := ?_) (a' := ?_) #[true, true, true, true, false, false, false, false, false] rfl rfl (any_of HT_.out (by kernel_rfl)) (fun _ _ _ h => h) (Or.inl ⟨by rfl, ?_⟩) ?_ ?_
                      rotate_left
                      · intro w'
                        go_simp
                        with_reducible rfl
                      rotate_left
                      · simp only [Act.put, List.setIfInBounds_toArray, List.set_cons_zero, List.set_cons_succ, i64_w, i32_w]
                        rfl
                      refine pure_ (i := 4) (N := some 82) (v := ?_) (a' := ?_) #[true, true, true, true, true, false, false, false, false] rfl rfl (any_of HT_.out (by kernel_rfl)) (fun _ _ _ h => h) (Or.inl ⟨by rfl, ?_⟩) ?_ ?_
                      rotate_left
                      · intro w'
                        go_simp
                        with_reducible rfl
                      rotate_left
                      · simp only [Act.put, List.setIfInBounds_toArray, List.set_cons_zero, List.set_cons_succ, i64_w, i32_w]
                        rfl
                      refine pure_ (i := 5) (N := some 83) (v := ?_) (a' := ?_) #[true, true, true, true, true, true, false, false, false] rfl rfl (any_of HT_.out (by kernel_rfl)) (fun _ _ _ h => h) (Or.inl ⟨by rfl, ?_⟩) ?_ ?_
                      rotate_left
                      · intro w'
                        go_simp
                        with_reducible rfl
                      rotate_left
                      · simp only [Act.put, List.setIfInBounds_toArray, List.set_cons_zero, List.set_cons_succ, i64_w, i32_w]
                        rfl
                      refine one_ (i := 6) (N := some 22) #[true, true, true, true, true, true, true, false, false] rfl rfl (one_of HT_.out (by kernel_rfl)) (by decide) (fun K hK => ?_)
                      refine box_step ?hg (N := 22) ?hd (cs := #[.int .i64 0, .int .i64 0]) (t := 23) ?hr ?_; (case hd => rfl); (case hg => rfl); (case hr => first | (go_simp; done) | (go_simp; rfl))
                      intro gb384 hg w80 hbox hb
                      have n0_ := Aside0.mk (blk_below (g := gb350) (o := .cells #[.int .i64 t347, .int .i64 t348] 23 (0, 0)) (by (with_reducible repeat (first | refine blk_drewN ?_ _ | refine blk_drew ?_ | refine blk_alloc ?_ _)); exact BK350.out) hb)
                      have n1_ := Aside0.mk (blk_below (g := gb356) (o := .cells #[.int .i64 t353, .int .i64 t354] 23 (0, 0)) (by (with_reducible repeat (first | refine blk_drewN ?_ _ | refine blk_drew ?_ | refine blk_alloc ?_ _)); exact BK356.out) hb)
                      have n2_ := Aside0.mk (blk_below (g := gb362) (o := .cells #[.int .i64 t359, .int .i64 t360] 23 (0, 0)) (by (with_reducible repeat (first | refine blk_drewN ?_ _ | refine blk_drew ?_ | refine blk_alloc ?_ _)); exact BK362.out) hb)
                      have n3_ := Aside0.mk (blk_below (g := gb366) (o := .cells #[.int .i64 t363, .int .i64 t364] 23 (0, 0)) (by (with_reducible repeat (first | refine blk_drewN ?_ _ | refine blk_drew ?_ | refine blk_alloc ?_ _)); exact BK366.out) hb)
                      have n4_ := Aside0.mk (blk_below (g := gb370) (o := .cells #[.int .i64 t367, .int .i64 t368] 23 (0, 0)) (by (with_reducible repeat (first | refine blk_drewN ?_ _ | refine blk_drew ?_ | refine blk_alloc ?_ _)); exact BK370.out) hb)
                      have n5_ := Aside0.mk (blk_below (g := gb374) (o := .cells #[.int .i64 t371, .int .i64 t372] 23 (0, 0)) (by (with_reducible repeat (first | refine blk_drewN ?_ _ | refine blk_drew ?_ | refine blk_alloc ?_ _)); exact BK374.out) hb)
                      have n6_ := Aside0.mk (blk_below (g := gb378) (o := .cells #[.int .i64 t375, .int .i64 t376] 23 (0, 0)) (by (with_reducible repeat (first | refine blk_drewN ?_ _ | refine blk_drew ?_ | refine blk_alloc ?_ _)); exact BK378.out) hb)
                      have n7_ := Aside0.mk (below_step (by repeat (first | (with_reducible first | exact HB.out | apply below_alloc | apply pw_below_drewN | apply below_drew1 | refine below_set ?_ GE350.out | refine below_set ?_ GE356.out | refine below_set ?_ GE362.out | refine below_set ?_ GE366.out | refine below_set ?_ GE370.out | refine below_set ?_ GE374.out | refine below_set ?_ GE378.out) | exact HB.out)) hb)
                      have n8_ := Aside0.mk (hbox)
                      have n9_ := Aside0.mk ((by rw [hg]; exact (below_size (by repeat (first | (with_reducible first | exact HB.out | apply below_alloc | apply pw_below_drewN | apply below_drew1 | refine below_set ?_ GE350.out | refine below_set ?_ GE356.out | refine below_set ?_ GE362.out | refine below_set ?_ GE366.out | refine below_set ?_ GE370.out | refine below_set ?_ GE374.out | refine below_set ?_ GE378.out) | exact HB.out))) : w.heap.size ≤ gb384))
                      have n10_ := Aside0.mk ((by rw [hg]; exact (below_size (by repeat (first | (with_reducible first | exact HB.out | apply below_alloc | apply pw_below_drewN | apply below_drew1 | refine below_set ?_ GE350.out | refine below_set ?_ GE356.out | refine below_set ?_ GE362.out | refine below_set ?_ GE366.out | refine below_set ?_ GE370.out | refine below_set ?_ GE374.out | refine below_set ?_ GE378.out) | exact HB.out))) : w.heap.size ≤ gb384))
                      have n11_ := Aside0.mk ((by rw [hg]; exact Nat.ne_of_lt (blk_lt (g := gb350) (o := .cells #[.int .i64 t347, .int .i64 t348] 23 (0, 0)) (by (with_reducible repeat (first | refine blk_drewN ?_ _ | refine blk_drew ?_ | refine blk_alloc ?_ _)); exact BK350.out)) : gb350 ≠ gb384))
                      have n12_ := Aside0.mk ((by rw [hg]; exact Nat.ne_of_gt (blk_lt (g := gb350) (o := .cells #[.int .i64 t347, .int .i64 t348] 23 (0, 0)) (by (with_reducible repeat (first | refine blk_drewN ?_ _ | refine blk_drew ?_ | refine blk_alloc ?_ _)); exact BK350.out)) : gb384 ≠ gb350))
                      have n13_ := Aside0.mk ((by rw [hg]; exact Nat.ne_of_lt (blk_lt (g := gb356) (o := .cells #[.int .i64 t353, .int .i64 t354] 23 (0, 0)) (by (with_reducible repeat (first | refine blk_drewN ?_ _ | refine blk_drew ?_ | refine blk_alloc ?_ _)); exact BK356.out)) : gb356 ≠ gb384))
                      have n14_ := Aside0.mk ((by rw [hg]; exact Nat.ne_of_gt (blk_lt (g := gb356) (o := .cells #[.int .i64 t353, .int .i64 t354] 23 (0, 0)) (by (with_reducible repeat (first | refine blk_drewN ?_ _ | refine blk_drew ?_ | refine blk_alloc ?_ _)); exact BK356.out)) : gb384 ≠ gb356))
                      have n15_ := Aside0.mk ((by rw [hg]; exact Nat.ne_of_lt (blk_lt (g := gb362) (o := .cells #[.int .i64 t359, .int .i64 t360] 23 (0, 0)) (by (with_reducible repeat (first | refine blk_drewN ?_ _ | refine blk_drew ?_ | refine blk_alloc ?_ _)); exact BK362.out)) : gb362 ≠ gb384))
                      have n16_ := Aside0.mk ((by rw [hg]; exact Nat.ne_of_gt (blk_lt (g := gb362) (o := .cells #[.int .i64 t359, .int .i64 t360] 23 (0, 0)) (by (with_reducible repeat (first | refine blk_drewN ?_ _ | refine blk_drew ?_ | refine blk_alloc ?_ _)); exact BK362.out)) : gb384 ≠ gb362))
                      have n17_ := Aside0.mk ((by rw [hg]; exact Nat.ne_of_lt (blk_lt (g := gb366) (o := .cells #[.int .i64 t363, .int .i64 t364] 23 (0, 0)) (by (with_reducible repeat (first | refine blk_drewN ?_ _ | refine blk_drew ?_ | refine blk_alloc ?_ _)); exact BK366.out)) : gb366 ≠ gb384))
                      have n18_ := Aside0.mk ((by rw [hg]; exact Nat.ne_of_gt (blk_lt (g := gb366) (o := .cells #[.int .i64 t363, .int .i64 t364] 23 (0, 0)) (by (with_reducible repeat (first | refine blk_drewN ?_ _ | refine blk_drew ?_ | refine blk_alloc ?_ _)); exact BK366.out)) : gb384 ≠ gb366))
                      have n19_ := Aside0.mk ((by rw [hg]; exact Nat.ne_of_lt (blk_lt (g := gb370) (o := .cells #[.int .i64 t367, .int .i64 t368] 23 (0, 0)) (by (with_reducible repeat (first | refine blk_drewN ?_ _ | refine blk_drew ?_ | refine blk_alloc ?_ _)); exact BK370.out)) : gb370 ≠ gb384))
                      have n20_ := Aside0.mk ((by rw [hg]; exact Nat.ne_of_gt (blk_lt (g := gb370) (o := .cells #[.int .i64 t367, .int .i64 t368] 23 (0, 0)) (by (with_reducible repeat (first | refine blk_drewN ?_ _ | refine blk_drew ?_ | refine blk_alloc ?_ _)); exact BK370.out)) : gb384 ≠ gb370))
                      have n21_ := Aside0.mk ((by rw [hg]; exact Nat.ne_of_lt (blk_lt (g := gb374) (o := .cells #[.int .i64 t371, .int .i64 t372] 23 (0, 0)) (by (with_reducible repeat (first | refine blk_drewN ?_ _ | refine blk_drew ?_ | refine blk_alloc ?_ _)); exact BK374.out)) : gb374 ≠ gb384))
                      have n22_ := Aside0.mk ((by rw [hg]; exact Nat.ne_of_gt (blk_lt (g := gb374) (o := .cells #[.int .i64 t371, .int .i64 t372] 23 (0, 0)) (by (with_reducible repeat (first | refine blk_drewN ?_ _ | refine blk_drew ?_ | refine blk_alloc ?_ _)); exact BK374.out)) : gb384 ≠ gb374))
                      have n23_ := Aside0.mk ((by rw [hg]; exact Nat.ne_of_lt (blk_lt (g := gb378) (o := .cells #[.int .i64 t375, .int .i64 t376] 23 (0, 0)) (by (with_reducible repeat (first | refine blk_drewN ?_ _ | refine blk_drew ?_ | refine blk_alloc ?_ _)); exact BK378.out)) : gb378 ≠ gb384))
                      have n24_ := Aside0.mk ((by rw [hg]; exact Nat.ne_of_gt (blk_lt (g := gb378) (o := .cells #[.int .i64 t375, .int .i64 t376] 23 (0, 0)) (by (with_reducible repeat (first | refine blk_drewN ?_ _ | refine blk_drew ?_ | refine blk_alloc ?_ _)); exact BK378.out)) : gb384 ≠ gb378))
                      clear BK350
                      clear BK356
                      clear BK362
                      clear BK366
                      clear BK370
                      clear BK374
                      clear BK378
                      clear HB
                      have BK350 := n0_
                      have BK356 := n1_
                      have BK362 := n2_
                      have BK366 := n3_
                      have BK370 := n4_
                      have BK374 := n5_
                      have BK378 := n6_
                      have HB := n7_
                      have BK384 := n8_
                      have GW384 := n9_
                      have GE384 := n10_
                      have NB350_384 := n11_
                      have NB384_350 := n12_
                      have NB356_384 := n13_
                      have NB384_356 := n14_
                      have NB362_384 := n15_
                      have NB384_362 := n16_
                      have NB366_384 := n17_
                      have NB384_366 := n18_
                      have NB370_384 := n19_
                      have NB384_370 := n20_
                      have NB374_384 := n21_
                      have NB384_374 := n22_
                      have NB378_384 := n23_
                      have NB384_378 := n24_
                      clear n0_ n1_ n2_ n3_ n4_ n5_ n6_ n7_ n8_ n9_ n10_ n11_ n12_ n13_ n14_ n15_ n16_ n17_ n18_ n19_ n20_ n21_ n22_ n23_ n24_
                      clear hb hbox hg
                      refine hK.out _ _ ⟨(blk_cell BK350.out 0).trans rfl, (blk_cell BK350.out 1).trans rfl⟩ (fun hHeld => ?_)
                      clear hK K
                      refine norm_ (a' := ?_) ?_ ?_
                      rotate_left
                      · show Act.put _ (some 22) _ = _
                        simp only [Act.put, List.setIfInBounds_toArray, List.set_cons_zero, List.set_cons_succ, i64_w, i32_w]
                        rfl
                      exact norm_ (by simp only [putAll, Act.put, List.setIfInBounds_toArray, List.set_cons_zero, List.set_cons_succ]) (hCont (gb384) _ ⟨hHeld, (by (with_reducible repeat (first | refine blk_drewN ?_ _ | refine blk_drew ?_ | refine blk_alloc ?_ _)); exact BK350.out), (by (with_reducible repeat (first | refine blk_drewN ?_ _ | refine blk_drew ?_ | refine blk_alloc ?_ _)); exact BK356.out), (by (with_reducible repeat (first | refine blk_drewN ?_ _ | refine blk_drew ?_ | refine blk_alloc ?_ _)); exact BK362.out), (by (with_reducible repeat (first | refine blk_drewN ?_ _ | refine blk_drew ?_ | refine blk_alloc ?_ _)); exact BK366.out), (by (with_reducible repeat (first | refine blk_drewN ?_ _ | refine blk_drew ?_ | refine blk_alloc ?_ _)); exact BK370.out), (by (with_reducible repeat (first | refine blk_drewN ?_ _ | refine blk_drew ?_ | refine blk_alloc ?_ _)); exact BK374.out), (by (with_reducible repeat (first | refine blk_drewN ?_ _ | refine blk_drew ?_ | refine blk_alloc ?_ _)); exact BK378.out), (by (with_reducible repeat (first | refine blk_drewN ?_ _ | refine blk_drew ?_ | refine blk_alloc ?_ _)); exact BK384.out), GW384.out, GE384.out, NB350_384.out, NB384_350.out, NB356_384.out, NB384_356.out, NB362_384.out, NB384_362.out, NB366_384.out, NB384_366.out, NB370_384.out, NB384_370.out, NB374_384.out, NB384_374.out, NB378_384.out, NB384_378.out, (by repeat (first | (with_reducible first | exact HB.out | apply below_alloc | apply pw_below_drewN | apply below_drew1 | refine below_set ?_ GE350.out | refine below_set ?_ GE356.out | refine below_set ?_ GE362.out | refine below_set ?_ GE366.out | refine below_set ?_ GE370.out | refine below_set ?_ GE374.out | refine below_set ?_ GE378.out | refine below_set ?_ GE384.out) | exact HB.out))⟩)
                    · skip
                      refine box_step ?hg (N := 22) ?hd (cs := #[.int .i64 0, .int .i64 0]) (t := 23) ?hr ?_; (case hd => rfl); (case hg => rfl); (case hr => first | (go_simp; done) | (go_simp; rfl))
                      intro gb384 hg w79 hbox hb
                      have n0_ := Aside0.mk (blk_below (g := gb350) (o := .cells #[.int .i64 t347, .int .i64 t348] 23 (0, 0)) (by (with_reducible repeat (first | refine blk_drewN ?_ _ | refine blk_drew ?_ | refine blk_alloc ?_ _)); exact BK350.out) hb)
                      have n1_ := Aside0.mk (blk_below (g := gb356) (o := .cells #[.int .i64 t353, .int .i64 t354] 23 (0, 0)) (by (with_reducible repeat (first | refine blk_drewN ?_ _ | refine blk_drew ?_ | refine blk_alloc ?_ _)); exact BK356.out) hb)
                      have n2_ := Aside0.mk (blk_below (g := gb362) (o := .cells #[.int .i64 t359, .int .i64 t360] 23 (0, 0)) (by (with_reducible repeat (first | refine blk_drewN ?_ _ | refine blk_drew ?_ | refine blk_alloc ?_ _)); exact BK362.out) hb)
                      have n3_ := Aside0.mk (blk_below (g := gb366) (o := .cells #[.int .i64 t363, .int .i64 t364] 23 (0, 0)) (by (with_reducible repeat (first | refine blk_drewN ?_ _ | refine blk_drew ?_ | refine blk_alloc ?_ _)); exact BK366.out) hb)
                      have n4_ := Aside0.mk (blk_below (g := gb370) (o := .cells #[.int .i64 t367, .int .i64 t368] 23 (0, 0)) (by (with_reducible repeat (first | refine blk_drewN ?_ _ | refine blk_drew ?_ | refine blk_alloc ?_ _)); exact BK370.out) hb)
                      have n5_ := Aside0.mk (blk_below (g := gb374) (o := .cells #[.int .i64 t371, .int .i64 t372] 23 (0, 0)) (by (with_reducible repeat (first | refine blk_drewN ?_ _ | refine blk_drew ?_ | refine blk_alloc ?_ _)); exact BK374.out) hb)
                      have n6_ := Aside0.mk (blk_below (g := gb378) (o := .cells #[.int .i64 t375, .int .i64 t376] 23 (0, 0)) (by (with_reducible repeat (first | refine blk_drewN ?_ _ | refine blk_drew ?_ | refine blk_alloc ?_ _)); exact BK378.out) hb)
                      have n7_ := Aside0.mk (below_step (by repeat (first | (with_reducible first | exact HB.out | apply below_alloc | apply pw_below_drewN | apply below_drew1 | refine below_set ?_ GE350.out | refine below_set ?_ GE356.out | refine below_set ?_ GE362.out | refine below_set ?_ GE366.out | refine below_set ?_ GE370.out | refine below_set ?_ GE374.out | refine below_set ?_ GE378.out) | exact HB.out)) hb)
                      have n8_ := Aside0.mk (hbox)
                      have n9_ := Aside0.mk ((by rw [hg]; exact (below_size (by repeat (first | (with_reducible first | exact HB.out | apply below_alloc | apply pw_below_drewN | apply below_drew1 | refine below_set ?_ GE350.out | refine below_set ?_ GE356.out | refine below_set ?_ GE362.out | refine below_set ?_ GE366.out | refine below_set ?_ GE370.out | refine below_set ?_ GE374.out | refine below_set ?_ GE378.out) | exact HB.out))) : w.heap.size ≤ gb384))
                      have n10_ := Aside0.mk ((by rw [hg]; exact (below_size (by repeat (first | (with_reducible first | exact HB.out | apply below_alloc | apply pw_below_drewN | apply below_drew1 | refine below_set ?_ GE350.out | refine below_set ?_ GE356.out | refine below_set ?_ GE362.out | refine below_set ?_ GE366.out | refine below_set ?_ GE370.out | refine below_set ?_ GE374.out | refine below_set ?_ GE378.out) | exact HB.out))) : w.heap.size ≤ gb384))
                      have n11_ := Aside0.mk ((by rw [hg]; exact Nat.ne_of_lt (blk_lt (g := gb350) (o := .cells #[.int .i64 t347, .int .i64 t348] 23 (0, 0)) (by (with_reducible repeat (first | refine blk_drewN ?_ _ | refine blk_drew ?_ | refine blk_alloc ?_ _)); exact BK350.out)) : gb350 ≠ gb384))
                      have n12_ := Aside0.mk ((by rw [hg]; exact Nat.ne_of_gt (blk_lt (g := gb350) (o := .cells #[.int .i64 t347, .int .i64 t348] 23 (0, 0)) (by (with_reducible repeat (first | refine blk_drewN ?_ _ | refine blk_drew ?_ | refine blk_alloc ?_ _)); exact BK350.out)) : gb384 ≠ gb350))
                      have n13_ := Aside0.mk ((by rw [hg]; exact Nat.ne_of_lt (blk_lt (g := gb356) (o := .cells #[.int .i64 t353, .int .i64 t354] 23 (0, 0)) (by (with_reducible repeat (first | refine blk_drewN ?_ _ | refine blk_drew ?_ | refine blk_alloc ?_ _)); exact BK356.out)) : gb356 ≠ gb384))
                      have n14_ := Aside0.mk ((by rw [hg]; exact Nat.ne_of_gt (blk_lt (g := gb356) (o := .cells #[.int .i64 t353, .int .i64 t354] 23 (0, 0)) (by (with_reducible repeat (first | refine blk_drewN ?_ _ | refine blk_drew ?_ | refine blk_alloc ?_ _)); exact BK356.out)) : gb384 ≠ gb356))
                      have n15_ := Aside0.mk ((by rw [hg]; exact Nat.ne_of_lt (blk_lt (g := gb362) (o := .cells #[.int .i64 t359, .int .i64 t360] 23 (0, 0)) (by (with_reducible repeat (first | refine blk_drewN ?_ _ | refine blk_drew ?_ | refine blk_alloc ?_ _)); exact BK362.out)) : gb362 ≠ gb384))
                      have n16_ := Aside0.mk ((by rw [hg]; exact Nat.ne_of_gt (blk_lt (g := gb362) (o := .cells #[.int .i64 t359, .int .i64 t360] 23 (0, 0)) (by (with_reducible repeat (first | refine blk_drewN ?_ _ | refine blk_drew ?_ | refine blk_alloc ?_ _)); exact BK362.out)) : gb384 ≠ gb362))
                      have n17_ := Aside0.mk ((by rw [hg]; exact Nat.ne_of_lt (blk_lt (g := gb366) (o := .cells #[.int .i64 t363, .int .i64 t364] 23 (0, 0)) (by (with_reducible repeat (first | refine blk_drewN ?_ _ | refine blk_drew ?_ | refine blk_alloc ?_ _)); exact BK366.out)) : gb366 ≠ gb384))
                      have n18_ := Aside0.mk ((by rw [hg]; exact Nat.ne_of_gt (blk_lt (g := gb366) (o := .cells #[.int .i64 t363, .int .i64 t364] 23 (0, 0)) (by (with_reducible repeat (first | refine blk_drewN ?_ _ | refine blk_drew ?_ | refine blk_alloc ?_ _)); exact BK366.out)) : gb384 ≠ gb366))
                      have n19_ := Aside0.mk ((by rw [hg]; exact Nat.ne_of_lt (blk_lt (g := gb370) (o := .cells #[.int .i64 t367, .int .i64 t368] 23 (0, 0)) (by (with_reducible repeat (first | refine blk_drewN ?_ _ | refine blk_drew ?_ | refine blk_alloc ?_ _)); exact BK370.out)) : gb370 ≠ gb384))
                      have n20_ := Aside0.mk ((by rw [hg]; exact Nat.ne_of_gt (blk_lt (g := gb370) (o := .cells #[.int .i64 t367, .int .i64 t368] 23 (0, 0)) (by (with_reducible repeat (first | refine blk_drewN ?_ _ | refine blk_drew ?_ | refine blk_alloc ?_ _)); exact BK370.out)) : gb384 ≠ gb370))
                      have n21_ := Aside0.mk ((by rw [hg]; exact Nat.ne_of_lt (blk_lt (g := gb374) (o := .cells #[.int .i64 t371, .int .i64 t372] 23 (0, 0)) (by (with_reducible repeat (first | refine blk_drewN ?_ _ | refine blk_drew ?_ | refine blk_alloc ?_ _)); exact BK374.out)) : gb374 ≠ gb384))
                      have n22_ := Aside0.mk ((by rw [hg]; exact Nat.ne_of_gt (blk_lt (g := gb374) (o := .cells #[.int .i64 t371, .int .i64 t372] 23 (0, 0)) (by (with_reducible repeat (first | refine blk_drewN ?_ _ | refine blk_drew ?_ | refine blk_alloc ?_ _)); exact BK374.out)) : gb384 ≠ gb374))
                      have n23_ := Aside0.mk ((by rw [hg]; exact Nat.ne_of_lt (blk_lt (g := gb378) (o := .cells #[.int .i64 t375, .int .i64 t376] 23 (0, 0)) (by (with_reducible repeat (first | refine blk_drewN ?_ _ | refine blk_drew ?_ | refine blk_alloc ?_ _)); exact BK378.out)) : gb378 ≠ gb384))
                      have n24_ := Aside0.mk ((by rw [hg]; exact Nat.ne_of_gt (blk_lt (g := gb378) (o := .cells #[.int .i64 t375, .int .i64 t376] 23 (0, 0)) (by (with_reducible repeat (first | refine blk_drewN ?_ _ | refine blk_drew ?_ | refine blk_alloc ?_ _)); exact BK378.out)) : gb384 ≠ gb378))
                      clear BK350
                      clear BK356
                      clear BK362
                      clear BK366
                      clear BK370
                      clear BK374
                      clear BK378
                      clear HB
                      have BK350 := n0_
                      have BK356 := n1_
                      have BK362 := n2_
                      have BK366 := n3_
                      have BK370 := n4_
                      have BK374 := n5_
                      have BK378 := n6_
                      have HB := n7_
                      have BK384 := n8_
                      have GW384 := n9_
                      have GE384 := n10_
                      have NB350_384 := n11_
                      have NB384_350 := n12_
                      have NB356_384 := n13_
                      have NB384_356 := n14_
                      have NB362_384 := n15_
                      have NB384_362 := n16_
                      have NB366_384 := n17_
                      have NB384_366 := n18_
                      have NB370_384 := n19_
                      have NB384_370 := n20_
                      have NB374_384 := n21_
                      have NB384_374 := n22_
                      have NB378_384 := n23_
                      have NB384_378 := n24_
                      clear n0_ n1_ n2_ n3_ n4_ n5_ n6_ n7_ n8_ n9_ n10_ n11_ n12_ n13_ n14_ n15_ n16_ n17_ n18_ n19_ n20_ n21_ n22_ n23_ n24_
                      clear hb hbox hg
                      refine hK.out _ _ ⟨(blk_cell BK350.out 0).trans rfl, (blk_cell BK350.out 1).trans rfl⟩ (fun hHeld => ?_)
                      clear hK K
                      refine norm_ (a' := ?_) ?_ ?_
                      rotate_left
                      · show Act.put _ (some 22) _ = _
                        simp only [Act.put, List.setIfInBounds_toArray, List.set_cons_zero, List.set_cons_succ, i64_w, i32_w]
                        rfl
                      refine one_ (i := 2) (N := some 81) #[true, true, true, false, false, false, true, false, false] rfl rfl (one_of HT_.out (by kernel_rfl)) (by decide) (fun K hK => ?_)
                      refine goes_ Try.func40 (by kernel_rfl) rfl #[.agg #[.int .i64 t347, .int .i64 t348], .agg #[.int .i64 t379, .int .i64 t380], .int .i64 0] (by rfl) rfl rfl (by (try simp only [List.map_toArray, List.map_cons, List.map_nil]); first | done | rfl | (simp only [List.length_drop, List.length_take]; rfl)) ?_
                      with_reducible refine (seal_Join.calls t347 t348 t379 t380 0 t381 t382 t383 _ A16.out).mono ?_
                      rintro e w80 ⟨rfl, hb⟩
                      refine ⟨_, rfl, ?_⟩
                      have n0_ := Aside0.mk (blk_below (g := gb350) (o := .cells #[.int .i64 t347, .int .i64 t348] 23 (0, 0)) (by (with_reducible repeat (first | refine blk_drewN ?_ _ | refine blk_drew ?_ | refine blk_alloc ?_ _)); exact BK350.out) hb)
                      have n1_ := Aside0.mk (blk_below (g := gb356) (o := .cells #[.int .i64 t353, .int .i64 t354] 23 (0, 0)) (by (with_reducible repeat (first | refine blk_drewN ?_ _ | refine blk_drew ?_ | refine blk_alloc ?_ _)); exact BK356.out) hb)
                      have n2_ := Aside0.mk (blk_below (g := gb362) (o := .cells #[.int .i64 t359, .int .i64 t360] 23 (0, 0)) (by (with_reducible repeat (first | refine blk_drewN ?_ _ | refine blk_drew ?_ | refine blk_alloc ?_ _)); exact BK362.out) hb)
                      have n3_ := Aside0.mk (blk_below (g := gb366) (o := .cells #[.int .i64 t363, .int .i64 t364] 23 (0, 0)) (by (with_reducible repeat (first | refine blk_drewN ?_ _ | refine blk_drew ?_ | refine blk_alloc ?_ _)); exact BK366.out) hb)
                      have n4_ := Aside0.mk (blk_below (g := gb370) (o := .cells #[.int .i64 t367, .int .i64 t368] 23 (0, 0)) (by (with_reducible repeat (first | refine blk_drewN ?_ _ | refine blk_drew ?_ | refine blk_alloc ?_ _)); exact BK370.out) hb)
                      have n5_ := Aside0.mk (blk_below (g := gb374) (o := .cells #[.int .i64 t371, .int .i64 t372] 23 (0, 0)) (by (with_reducible repeat (first | refine blk_drewN ?_ _ | refine blk_drew ?_ | refine blk_alloc ?_ _)); exact BK374.out) hb)
                      have n6_ := Aside0.mk (blk_below (g := gb378) (o := .cells #[.int .i64 t375, .int .i64 t376] 23 (0, 0)) (by (with_reducible repeat (first | refine blk_drewN ?_ _ | refine blk_drew ?_ | refine blk_alloc ?_ _)); exact BK378.out) hb)
                      have n7_ := Aside0.mk (blk_below (g := gb384) (o := .cells #[.int .i64 0, .int .i64 0] 23 (0, 0)) (by (with_reducible repeat (first | refine blk_drewN ?_ _ | refine blk_drew ?_ | refine blk_alloc ?_ _)); exact BK384.out) hb)
                      have n8_ := Aside0.mk (below_step (by repeat (first | (with_reducible first | exact HB.out | apply below_alloc | apply pw_below_drewN | apply below_drew1 | refine below_set ?_ GE350.out | refine below_set ?_ GE356.out | refine below_set ?_ GE362.out | refine below_set ?_ GE366.out | refine below_set ?_ GE370.out | refine below_set ?_ GE374.out | refine below_set ?_ GE378.out | refine below_set ?_ GE384.out) | exact HB.out)) hb)
                      clear BK350
                      clear BK356
                      clear BK362
                      clear BK366
                      clear BK370
                      clear BK374
                      clear BK378
                      clear BK384
                      clear HB
                      have BK350 := n0_
                      have BK356 := n1_
                      have BK362 := n2_
                      have BK366 := n3_
                      have BK370 := n4_
                      have BK374 := n5_
                      have BK378 := n6_
                      have BK384 := n7_
                      have HB := n8_
                      clear n0_ n1_ n2_ n3_ n4_ n5_ n6_ n7_ n8_
                      (try clear hb)
                      (try clear hb2)
                      (try clear hk)
                      (try clear hi)
                      refine hK.out _ _ ⟨(blk_cell BK350.out 0).trans rfl, (blk_cell BK350.out 1).trans rfl⟩ (fun hHeld => ?_)
                      clear hK K
                      refine norm_ (a' := ?_) ?_ ?_
                      rotate_left
                      · show Act.put _ (some 81) _ = _
                        simp only [Act.put, List.setIfInBounds_toArray, List.set_cons_zero, List.set_cons_succ, i64_w, i32_w]
                        rfl
                      refine pure_ (i := 3) (N := some 78) (v := ?_) (a' := ?_) #[true, true, true, true, false, false, true, false, false] rfl rfl (any_of HT_.out (by kernel_rfl)) (fun _ _ _ h => h) (Or.inl ⟨by rfl, ?_⟩) ?_ ?_
                      rotate_left
                      · intro w'
                        go_simp
                        with_reducible rfl
                      rotate_left
                      · simp only [Act.put, List.setIfInBounds_toArray, List.set_cons_zero, List.set_cons_succ, i64_w, i32_w]
                        rfl
                      refine pure_ (i := 4) (N := some 82) (v := ?_) (a' := ?_) #[true, true, true, true, true, false, true, false, false] rfl rfl (any_of HT_.out (by kernel_rfl)) (fun _ _ _ h => h) (Or.inl ⟨by rfl, ?_⟩) ?_ ?_
                      rotate_left
                      · intro w'
                        go_simp
                        with_reducible rfl
                      rotate_left
                      · simp only [Act.put, List.setIfInBounds_toArray, List.set_cons_zero, List.set_cons_succ, i64_w, i32_w]
                        rfl
                      refine pure_ (i := 5) (N := some 83) (v := ?_) (a' := ?_) #[true, true, true, true, true, true, true, false, false] rfl rfl (any_of HT_.out (by kernel_rfl)) (fun _ _ _ h => h) (Or.inl ⟨by rfl, ?_⟩) ?_ ?_
                      rotate_left
                      · intro w'
                        go_simp
                        with_reducible rfl
                      rotate_left
                      · simp only [Act.put, List.setIfInBounds_toArray, List.set_cons_zero, List.set_cons_succ, i64_w, i32_w]
                        rfl
                      exact norm_ (by simp only [putAll, Act.put, List.setIfInBounds_toArray, List.set_cons_zero, List.set_cons_succ]) (hCont (gb384) _ ⟨hHeld, (by (with_reducible repeat (first | refine blk_drewN ?_ _ | refine blk_drew ?_ | refine blk_alloc ?_ _)); exact BK350.out), (by (with_reducible repeat (first | refine blk_drewN ?_ _ | refine blk_drew ?_ | refine blk_alloc ?_ _)); exact BK356.out), (by (with_reducible repeat (first | refine blk_drewN ?_ _ | refine blk_drew ?_ | refine blk_alloc ?_ _)); exact BK362.out), (by (with_reducible repeat (first | refine blk_drewN ?_ _ | refine blk_drew ?_ | refine blk_alloc ?_ _)); exact BK366.out), (by (with_reducible repeat (first | refine blk_drewN ?_ _ | refine blk_drew ?_ | refine blk_alloc ?_ _)); exact BK370.out), (by (with_reducible repeat (first | refine blk_drewN ?_ _ | refine blk_drew ?_ | refine blk_alloc ?_ _)); exact BK374.out), (by (with_reducible repeat (first | refine blk_drewN ?_ _ | refine blk_drew ?_ | refine blk_alloc ?_ _)); exact BK378.out), (by (with_reducible repeat (first | refine blk_drewN ?_ _ | refine blk_drew ?_ | refine blk_alloc ?_ _)); exact BK384.out), GW384.out, GE384.out, NB350_384.out, NB384_350.out, NB356_384.out, NB384_356.out, NB362_384.out, NB384_362.out, NB366_384.out, NB384_366.out, NB370_384.out, NB384_370.out, NB374_384.out, NB384_374.out, NB378_384.out, NB384_378.out, (by repeat (first | (with_reducible first | exact HB.out | apply below_alloc | apply pw_below_drewN | apply below_drew1 | refine below_set ?_ GE350.out | refine below_set ?_ GE356.out | refine below_set ?_ GE362.out | refine below_set ?_ GE366.out | refine below_set ?_ GE370.out | refine below_set ?_ GE374.out | refine below_set ?_ GE378.out | refine below_set ?_ GE384.out) | exact HB.out))⟩)
                  · skip
                    refine box_step ?hg (N := 22) ?hd (cs := #[.int .i64 0, .int .i64 0]) (t := 23) ?hr ?_; (case hd => rfl); (case hg => rfl); (case hr => first | (go_simp; done) | (go_simp; rfl))
                    intro gb384 hg w78 hbox hb
                    have n0_ := Aside0.mk (blk_below (g := gb350) (o := .cells #[.int .i64 t347, .int .i64 t348] 23 (0, 0)) (by (with_reducible repeat (first | refine blk_drewN ?_ _ | refine blk_drew ?_ | refine blk_alloc ?_ _)); exact BK350.out) hb)
                    have n1_ := Aside0.mk (blk_below (g := gb356) (o := .cells #[.int .i64 t353, .int .i64 t354] 23 (0, 0)) (by (with_reducible repeat (first | refine blk_drewN ?_ _ | refine blk_drew ?_ | refine blk_alloc ?_ _)); exact BK356.out) hb)
                    have n2_ := Aside0.mk (blk_below (g := gb362) (o := .cells #[.int .i64 t359, .int .i64 t360] 23 (0, 0)) (by (with_reducible repeat (first | refine blk_drewN ?_ _ | refine blk_drew ?_ | refine blk_alloc ?_ _)); exact BK362.out) hb)
                    have n3_ := Aside0.mk (blk_below (g := gb366) (o := .cells #[.int .i64 t363, .int .i64 t364] 23 (0, 0)) (by (with_reducible repeat (first | refine blk_drewN ?_ _ | refine blk_drew ?_ | refine blk_alloc ?_ _)); exact BK366.out) hb)
                    have n4_ := Aside0.mk (blk_below (g := gb370) (o := .cells #[.int .i64 t367, .int .i64 t368] 23 (0, 0)) (by (with_reducible repeat (first | refine blk_drewN ?_ _ | refine blk_drew ?_ | refine blk_alloc ?_ _)); exact BK370.out) hb)
                    have n5_ := Aside0.mk (blk_below (g := gb374) (o := .cells #[.int .i64 t371, .int .i64 t372] 23 (0, 0)) (by (with_reducible repeat (first | refine blk_drewN ?_ _ | refine blk_drew ?_ | refine blk_alloc ?_ _)); exact BK374.out) hb)
                    have n6_ := Aside0.mk (blk_below (g := gb378) (o := .cells #[.int .i64 t375, .int .i64 t376] 23 (0, 0)) (by (with_reducible repeat (first | refine blk_drewN ?_ _ | refine blk_drew ?_ | refine blk_alloc ?_ _)); exact BK378.out) hb)
                    have n7_ := Aside0.mk (below_step (by repeat (first | (with_reducible first | exact HB.out | apply below_alloc | apply pw_below_drewN | apply below_drew1 | refine below_set ?_ GE350.out | refine below_set ?_ GE356.out | refine below_set ?_ GE362.out | refine below_set ?_ GE366.out | refine below_set ?_ GE370.out | refine below_set ?_ GE374.out | refine below_set ?_ GE378.out) | exact HB.out)) hb)
                    have n8_ := Aside0.mk (hbox)
                    have n9_ := Aside0.mk ((by rw [hg]; exact (below_size (by repeat (first | (with_reducible first | exact HB.out | apply below_alloc | apply pw_below_drewN | apply below_drew1 | refine below_set ?_ GE350.out | refine below_set ?_ GE356.out | refine below_set ?_ GE362.out | refine below_set ?_ GE366.out | refine below_set ?_ GE370.out | refine below_set ?_ GE374.out | refine below_set ?_ GE378.out) | exact HB.out))) : w.heap.size ≤ gb384))
                    have n10_ := Aside0.mk ((by rw [hg]; exact (below_size (by repeat (first | (with_reducible first | exact HB.out | apply below_alloc | apply pw_below_drewN | apply below_drew1 | refine below_set ?_ GE350.out | refine below_set ?_ GE356.out | refine below_set ?_ GE362.out | refine below_set ?_ GE366.out | refine below_set ?_ GE370.out | refine below_set ?_ GE374.out | refine below_set ?_ GE378.out) | exact HB.out))) : w.heap.size ≤ gb384))
                    have n11_ := Aside0.mk ((by rw [hg]; exact Nat.ne_of_lt (blk_lt (g := gb350) (o := .cells #[.int .i64 t347, .int .i64 t348] 23 (0, 0)) (by (with_reducible repeat (first | refine blk_drewN ?_ _ | refine blk_drew ?_ | refine blk_alloc ?_ _)); exact BK350.out)) : gb350 ≠ gb384))
                    have n12_ := Aside0.mk ((by rw [hg]; exact Nat.ne_of_gt (blk_lt (g := gb350) (o := .cells #[.int .i64 t347, .int .i64 t348] 23 (0, 0)) (by (with_reducible repeat (first | refine blk_drewN ?_ _ | refine blk_drew ?_ | refine blk_alloc ?_ _)); exact BK350.out)) : gb384 ≠ gb350))
                    have n13_ := Aside0.mk ((by rw [hg]; exact Nat.ne_of_lt (blk_lt (g := gb356) (o := .cells #[.int .i64 t353, .int .i64 t354] 23 (0, 0)) (by (with_reducible repeat (first | refine blk_drewN ?_ _ | refine blk_drew ?_ | refine blk_alloc ?_ _)); exact BK356.out)) : gb356 ≠ gb384))
                    have n14_ := Aside0.mk ((by rw [hg]; exact Nat.ne_of_gt (blk_lt (g := gb356) (o := .cells #[.int .i64 t353, .int .i64 t354] 23 (0, 0)) (by (with_reducible repeat (first | refine blk_drewN ?_ _ | refine blk_drew ?_ | refine blk_alloc ?_ _)); exact BK356.out)) : gb384 ≠ gb356))
                    have n15_ := Aside0.mk ((by rw [hg]; exact Nat.ne_of_lt (blk_lt (g := gb362) (o := .cells #[.int .i64 t359, .int .i64 t360] 23 (0, 0)) (by (with_reducible repeat (first | refine blk_drewN ?_ _ | refine blk_drew ?_ | refine blk_alloc ?_ _)); exact BK362.out)) : gb362 ≠ gb384))
                    have n16_ := Aside0.mk ((by rw [hg]; exact Nat.ne_of_gt (blk_lt (g := gb362) (o := .cells #[.int .i64 t359, .int .i64 t360] 23 (0, 0)) (by (with_reducible repeat (first | refine blk_drewN ?_ _ | refine blk_drew ?_ | refine blk_alloc ?_ _)); exact BK362.out)) : gb384 ≠ gb362))
                    have n17_ := Aside0.mk ((by rw [hg]; exact Nat.ne_of_lt (blk_lt (g := gb366) (o := .cells #[.int .i64 t363, .int .i64 t364] 23 (0, 0)) (by (with_reducible repeat (first | refine blk_drewN ?_ _ | refine blk_drew ?_ | refine blk_alloc ?_ _)); exact BK366.out)) : gb366 ≠ gb384))
                    have n18_ := Aside0.mk ((by rw [hg]; exact Nat.ne_of_gt (blk_lt (g := gb366) (o := .cells #[.int .i64 t363, .int .i64 t364] 23 (0, 0)) (by (with_reducible repeat (first | refine blk_drewN ?_ _ | refine blk_drew ?_ | refine blk_alloc ?_ _)); exact BK366.out)) : gb384 ≠ gb366))
                    have n19_ := Aside0.mk ((by rw [hg]; exact Nat.ne_of_lt (blk_lt (g := gb370) (o := .cells #[.int .i64 t367, .int .i64 t368] 23 (0, 0)) (by (with_reducible repeat (first | refine blk_drewN ?_ _ | refine blk_drew ?_ | refine blk_alloc ?_ _)); exact BK370.out)) : gb370 ≠ gb384))
                    have n20_ := Aside0.mk ((by rw [hg]; exact Nat.ne_of_gt (blk_lt (g := gb370) (o := .cells #[.int .i64 t367, .int .i64 t368] 23 (0, 0)) (by (with_reducible repeat (first | refine blk_drewN ?_ _ | refine blk_drew ?_ | refine blk_alloc ?_ _)); exact BK370.out)) : gb384 ≠ gb370))
                    have n21_ := Aside0.mk ((by rw [hg]; exact Nat.ne_of_lt (blk_lt (g := gb374) (o := .cells #[.int .i64 t371, .int .i64 t372] 23 (0, 0)) (by (with_reducible repeat (first | refine blk_drewN ?_ _ | refine blk_drew ?_ | refine blk_alloc ?_ _)); exact BK374.out)) : gb374 ≠ gb384))
                    have n22_ := Aside0.mk ((by rw [hg]; exact Nat.ne_of_gt (blk_lt (g := gb374) (o := .cells #[.int .i64 t371, .int .i64 t372] 23 (0, 0)) (by (with_reducible repeat (first | refine blk_drewN ?_ _ | refine blk_drew ?_ | refine blk_alloc ?_ _)); exact BK374.out)) : gb384 ≠ gb374))
                    have n23_ := Aside0.mk ((by rw [hg]; exact Nat.ne_of_lt (blk_lt (g := gb378) (o := .cells #[.int .i64 t375, .int .i64 t376] 23 (0, 0)) (by (with_reducible repeat (first | refine blk_drewN ?_ _ | refine blk_drew ?_ | refine blk_alloc ?_ _)); exact BK378.out)) : gb378 ≠ gb384))
                    have n24_ := Aside0.mk ((by rw [hg]; exact Nat.ne_of_gt (blk_lt (g := gb378) (o := .cells #[.int .i64 t375, .int .i64 t376] 23 (0, 0)) (by (with_reducible repeat (first | refine blk_drewN ?_ _ | refine blk_drew ?_ | refine blk_alloc ?_ _)); exact BK378.out)) : gb384 ≠ gb378))
                    clear BK350
                    clear BK356
                    clear BK362
                    clear BK366
                    clear BK370
                    clear BK374
                    clear BK378
                    clear HB
                    have BK350 := n0_
                    have BK356 := n1_
                    have BK362 := n2_
                    have BK366 := n3_
                    have BK370 := n4_
                    have BK374 := n5_
                    have BK378 := n6_
                    have HB := n7_
                    have BK384 := n8_
                    have GW384 := n9_
                    have GE384 := n10_
                    have NB350_384 := n11_
                    have NB384_350 := n12_
                    have NB356_384 := n13_
                    have NB384_356 := n14_
                    have NB362_384 := n15_
                    have NB384_362 := n16_
                    have NB366_384 := n17_
                    have NB384_366 := n18_
                    have NB370_384 := n19_
                    have NB384_370 := n20_
                    have NB374_384 := n21_
                    have NB384_374 := n22_
                    have NB378_384 := n23_
                    have NB384_378 := n24_
                    clear n0_ n1_ n2_ n3_ n4_ n5_ n6_ n7_ n8_ n9_ n10_ n11_ n12_ n13_ n14_ n15_ n16_ n17_ n18_ n19_ n20_ n21_ n22_ n23_ n24_
                    clear hb hbox hg
                    refine hK.out _ _ ⟨(blk_cell BK350.out 0).trans rfl, (blk_cell BK350.out 1).trans rfl⟩ (fun hHeld => ?_)
                    clear hK K
                    refine norm_ (a' := ?_) ?_ ?_
                    rotate_left
                    · show Act.put _ (some 22) _ = _
                      simp only [Act.put, List.setIfInBounds_toArray, List.set_cons_zero, List.set_cons_succ, i64_w, i32_w]
                      rfl
                    refine one_ (i := 1) (N := some 80) #[true, true, false, false, false, false, true, false, false] rfl rfl (one_of HT_.out (by kernel_rfl)) (by decide) (fun K hK => ?_)
                    refine goes_ Try.func31 (by kernel_rfl) rfl #[] (by rfl) rfl rfl (by (try simp only [List.map_toArray, List.map_cons, List.map_nil]); first | done | rfl | (simp only [List.length_drop, List.length_take]; rfl)) ?_
                    with_reducible refine (seal_Start.calls  t379 t380 _ A15.out).mono ?_
                    rintro e w79 ⟨rfl, hb⟩
                    refine ⟨_, rfl, ?_⟩
                    have n0_ := Aside0.mk (blk_below (g := gb350) (o := .cells #[.int .i64 t347, .int .i64 t348] 23 (0, 0)) (by (with_reducible repeat (first | refine blk_drewN ?_ _ | refine blk_drew ?_ | refine blk_alloc ?_ _)); exact BK350.out) hb)
                    have n1_ := Aside0.mk (blk_below (g := gb356) (o := .cells #[.int .i64 t353, .int .i64 t354] 23 (0, 0)) (by (with_reducible repeat (first | refine blk_drewN ?_ _ | refine blk_drew ?_ | refine blk_alloc ?_ _)); exact BK356.out) hb)
                    have n2_ := Aside0.mk (blk_below (g := gb362) (o := .cells #[.int .i64 t359, .int .i64 t360] 23 (0, 0)) (by (with_reducible repeat (first | refine blk_drewN ?_ _ | refine blk_drew ?_ | refine blk_alloc ?_ _)); exact BK362.out) hb)
                    have n3_ := Aside0.mk (blk_below (g := gb366) (o := .cells #[.int .i64 t363, .int .i64 t364] 23 (0, 0)) (by (with_reducible repeat (first | refine blk_drewN ?_ _ | refine blk_drew ?_ | refine blk_alloc ?_ _)); exact BK366.out) hb)
                    have n4_ := Aside0.mk (blk_below (g := gb370) (o := .cells #[.int .i64 t367, .int .i64 t368] 23 (0, 0)) (by (with_reducible repeat (first | refine blk_drewN ?_ _ | refine blk_drew ?_ | refine blk_alloc ?_ _)); exact BK370.out) hb)
                    have n5_ := Aside0.mk (blk_below (g := gb374) (o := .cells #[.int .i64 t371, .int .i64 t372] 23 (0, 0)) (by (with_reducible repeat (first | refine blk_drewN ?_ _ | refine blk_drew ?_ | refine blk_alloc ?_ _)); exact BK374.out) hb)
                    have n6_ := Aside0.mk (blk_below (g := gb378) (o := .cells #[.int .i64 t375, .int .i64 t376] 23 (0, 0)) (by (with_reducible repeat (first | refine blk_drewN ?_ _ | refine blk_drew ?_ | refine blk_alloc ?_ _)); exact BK378.out) hb)
                    have n7_ := Aside0.mk (blk_below (g := gb384) (o := .cells #[.int .i64 0, .int .i64 0] 23 (0, 0)) (by (with_reducible repeat (first | refine blk_drewN ?_ _ | refine blk_drew ?_ | refine blk_alloc ?_ _)); exact BK384.out) hb)
                    have n8_ := Aside0.mk (below_step (by repeat (first | (with_reducible first | exact HB.out | apply below_alloc | apply pw_below_drewN | apply below_drew1 | refine below_set ?_ GE350.out | refine below_set ?_ GE356.out | refine below_set ?_ GE362.out | refine below_set ?_ GE366.out | refine below_set ?_ GE370.out | refine below_set ?_ GE374.out | refine below_set ?_ GE378.out | refine below_set ?_ GE384.out) | exact HB.out)) hb)
                    clear BK350
                    clear BK356
                    clear BK362
                    clear BK366
                    clear BK370
                    clear BK374
                    clear BK378
                    clear BK384
                    clear HB
                    have BK350 := n0_
                    have BK356 := n1_
                    have BK362 := n2_
                    have BK366 := n3_
                    have BK370 := n4_
                    have BK374 := n5_
                    have BK378 := n6_
                    have BK384 := n7_
                    have HB := n8_
                    clear n0_ n1_ n2_ n3_ n4_ n5_ n6_ n7_ n8_
                    (try clear hb)
                    (try clear hb2)
                    (try clear hk)
                    (try clear hi)
                    refine hK.out _ _ ⟨(blk_cell BK350.out 0).trans rfl, (blk_cell BK350.out 1).trans rfl⟩ (fun hHeld => ?_)
                    clear hK K
                    refine norm_ (a' := ?_) ?_ ?_
                    rotate_left
                    · show Act.put _ (some 80) _ = _
                      simp only [Act.put, List.setIfInBounds_toArray, List.set_cons_zero, List.set_cons_succ, i64_w, i32_w]
                      rfl
                    refine one_ (i := 2) (N := some 81) #[true, true, true, false, false, false, true, false, false] rfl rfl (one_of HT_.out (by kernel_rfl)) (by decide) (fun K hK => ?_)
                    refine goes_ Try.func40 (by kernel_rfl) rfl #[.agg #[.int .i64 t347, .int .i64 t348], .agg #[.int .i64 t379, .int .i64 t380], .int .i64 0] (by rfl) rfl rfl (by (try simp only [List.map_toArray, List.map_cons, List.map_nil]); first | done | rfl | (simp only [List.length_drop, List.length_take]; rfl)) ?_
                    with_reducible refine (seal_Join.calls t347 t348 t379 t380 0 t381 t382 t383 _ A16.out).mono ?_
                    rintro e w80 ⟨rfl, hb⟩
                    refine ⟨_, rfl, ?_⟩
                    have n0_ := Aside0.mk (blk_below (g := gb350) (o := .cells #[.int .i64 t347, .int .i64 t348] 23 (0, 0)) (by (with_reducible repeat (first | refine blk_drewN ?_ _ | refine blk_drew ?_ | refine blk_alloc ?_ _)); exact BK350.out) hb)
                    have n1_ := Aside0.mk (blk_below (g := gb356) (o := .cells #[.int .i64 t353, .int .i64 t354] 23 (0, 0)) (by (with_reducible repeat (first | refine blk_drewN ?_ _ | refine blk_drew ?_ | refine blk_alloc ?_ _)); exact BK356.out) hb)
                    have n2_ := Aside0.mk (blk_below (g := gb362) (o := .cells #[.int .i64 t359, .int .i64 t360] 23 (0, 0)) (by (with_reducible repeat (first | refine blk_drewN ?_ _ | refine blk_drew ?_ | refine blk_alloc ?_ _)); exact BK362.out) hb)
                    have n3_ := Aside0.mk (blk_below (g := gb366) (o := .cells #[.int .i64 t363, .int .i64 t364] 23 (0, 0)) (by (with_reducible repeat (first | refine blk_drewN ?_ _ | refine blk_drew ?_ | refine blk_alloc ?_ _)); exact BK366.out) hb)
                    have n4_ := Aside0.mk (blk_below (g := gb370) (o := .cells #[.int .i64 t367, .int .i64 t368] 23 (0, 0)) (by (with_reducible repeat (first | refine blk_drewN ?_ _ | refine blk_drew ?_ | refine blk_alloc ?_ _)); exact BK370.out) hb)
                    have n5_ := Aside0.mk (blk_below (g := gb374) (o := .cells #[.int .i64 t371, .int .i64 t372] 23 (0, 0)) (by (with_reducible repeat (first | refine blk_drewN ?_ _ | refine blk_drew ?_ | refine blk_alloc ?_ _)); exact BK374.out) hb)
                    have n6_ := Aside0.mk (blk_below (g := gb378) (o := .cells #[.int .i64 t375, .int .i64 t376] 23 (0, 0)) (by (with_reducible repeat (first | refine blk_drewN ?_ _ | refine blk_drew ?_ | refine blk_alloc ?_ _)); exact BK378.out) hb)
                    have n7_ := Aside0.mk (blk_below (g := gb384) (o := .cells #[.int .i64 0, .int .i64 0] 23 (0, 0)) (by (with_reducible repeat (first | refine blk_drewN ?_ _ | refine blk_drew ?_ | refine blk_alloc ?_ _)); exact BK384.out) hb)
                    have n8_ := Aside0.mk (below_step (by repeat (first | (with_reducible first | exact HB.out | apply below_alloc | apply pw_below_drewN | apply below_drew1 | refine below_set ?_ GE350.out | refine below_set ?_ GE356.out | refine below_set ?_ GE362.out | refine below_set ?_ GE366.out | refine below_set ?_ GE370.out | refine below_set ?_ GE374.out | refine below_set ?_ GE378.out | refine below_set ?_ GE384.out) | exact HB.out)) hb)
                    clear BK350
                    clear BK356
                    clear BK362
                    clear BK366
                    clear BK370
                    clear BK374
                    clear BK378
                    clear BK384
                    clear HB
                    have BK350 := n0_
                    have BK356 := n1_
                    have BK362 := n2_
                    have BK366 := n3_
                    have BK370 := n4_
                    have BK374 := n5_
                    have BK378 := n6_
                    have BK384 := n7_
                    have HB := n8_
                    clear n0_ n1_ n2_ n3_ n4_ n5_ n6_ n7_ n8_
                    (try clear hb)
                    (try clear hb2)
                    (try clear hk)
                    (try clear hi)
                    refine hK.out _ _ ⟨(blk_cell BK350.out 0).trans rfl, (blk_cell BK350.out 1).trans rfl⟩ (fun hHeld => ?_)
                    clear hK K
                    refine norm_ (a' := ?_) ?_ ?_
                    rotate_left
                    · show Act.put _ (some 81) _ = _
                      simp only [Act.put, List.setIfInBounds_toArray, List.set_cons_zero, List.set_cons_succ, i64_w, i32_w]
                      rfl
                    refine pure_ (i := 3) (N := some 78) (v := ?_) (a' := ?_) #[true, true, true, true, false, false, true, false, false] rfl rfl (any_of HT_.out (by kernel_rfl)) (fun _ _ _ h => h) (Or.inl ⟨by rfl, ?_⟩) ?_ ?_
                    rotate_left
                    · intro w'
                      go_simp
                      with_reducible rfl
                    rotate_left
                    · simp only [Act.put, List.setIfInBounds_toArray, List.set_cons_zero, List.set_cons_succ, i64_w, i32_w]
                      rfl
                    refine pure_ (i := 4) (N := some 82) (v := ?_) (a' := ?_) #[true, true, true, true, true, false, true, false, false] rfl rfl (any_of HT_.out (by kernel_rfl)) (fun _ _ _ h => h) (Or.inl ⟨by rfl, ?_⟩) ?_ ?_
                    rotate_left
                    · intro w'
                      go_simp
                      with_reducible rfl
                    rotate_left
                    · simp only [Act.put, List.setIfInBounds_toArray, List.set_cons_zero, List.set_cons_succ, i64_w, i32_w]
                      rfl
                    refine pure_ (i := 5) (N := some 83) (v := ?_) (a' := ?_) #[true, true, true, true, true, true, true, false, false] rfl rfl (any_of HT_.out (by kernel_rfl)) (fun _ _ _ h => h) (Or.inl ⟨by rfl, ?_⟩) ?_ ?_
                    rotate_left
                    · intro w'
                      go_simp
                      with_reducible rfl
                    rotate_left
                    · simp only [Act.put, List.setIfInBounds_toArray, List.set_cons_zero, List.set_cons_succ, i64_w, i32_w]
                      rfl
                    exact norm_ (by simp only [putAll, Act.put, List.setIfInBounds_toArray, List.set_cons_zero, List.set_cons_succ]) (hCont (gb384) _ ⟨hHeld, (by (with_reducible repeat (first | refine blk_drewN ?_ _ | refine blk_drew ?_ | refine blk_alloc ?_ _)); exact BK350.out), (by (with_reducible repeat (first | refine blk_drewN ?_ _ | refine blk_drew ?_ | refine blk_alloc ?_ _)); exact BK356.out), (by (with_reducible repeat (first | refine blk_drewN ?_ _ | refine blk_drew ?_ | refine blk_alloc ?_ _)); exact BK362.out), (by (with_reducible repeat (first | refine blk_drewN ?_ _ | refine blk_drew ?_ | refine blk_alloc ?_ _)); exact BK366.out), (by (with_reducible repeat (first | refine blk_drewN ?_ _ | refine blk_drew ?_ | refine blk_alloc ?_ _)); exact BK370.out), (by (with_reducible repeat (first | refine blk_drewN ?_ _ | refine blk_drew ?_ | refine blk_alloc ?_ _)); exact BK374.out), (by (with_reducible repeat (first | refine blk_drewN ?_ _ | refine blk_drew ?_ | refine blk_alloc ?_ _)); exact BK378.out), (by (with_reducible repeat (first | refine blk_drewN ?_ _ | refine blk_drew ?_ | refine blk_alloc ?_ _)); exact BK384.out), GW384.out, GE384.out, NB350_384.out, NB384_350.out, NB356_384.out, NB384_356.out, NB362_384.out, NB384_362.out, NB366_384.out, NB384_366.out, NB370_384.out, NB384_370.out, NB374_384.out, NB384_374.out, NB378_384.out, NB384_378.out, (by repeat (first | (with_reducible first | exact HB.out | apply below_alloc | apply pw_below_drewN | apply below_drew1 | refine below_set ?_ GE350.out | refine below_set ?_ GE356.out | refine below_set ?_ GE362.out | refine below_set ?_ GE366.out | refine below_set ?_ GE370.out | refine below_set ?_ GE374.out | refine below_set ?_ GE378.out | refine below_set ?_ GE384.out) | exact HB.out))⟩)
                rintro gb384 w81 ⟨hS_, h0_, h1_, h2_, h3_, h4_, h5_, h6_, h7_, h8_, h9_, h10_, h11_, h12_, h13_, h14_, h15_, h16_, h17_, h18_, h19_, h20_, h21_, h22_, h23_, h24_⟩
                have n0_ : Aside0 (w81.heap[gb350]? = some (.cells #[.int .i64 t347, .int .i64 t348] 23 (0, 0))) := ⟨h0_⟩
                have n1_ : Aside0 (w81.heap[gb356]? = some (.cells #[.int .i64 t353, .int .i64 t354] 23 (0, 0))) := ⟨h1_⟩
                have n2_ : Aside0 (w81.heap[gb362]? = some (.cells #[.int .i64 t359, .int .i64 t360] 23 (0, 0))) := ⟨h2_⟩
                have n3_ : Aside0 (w81.heap[gb366]? = some (.cells #[.int .i64 t363, .int .i64 t364] 23 (0, 0))) := ⟨h3_⟩
                have n4_ : Aside0 (w81.heap[gb370]? = some (.cells #[.int .i64 t367, .int .i64 t368] 23 (0, 0))) := ⟨h4_⟩
                have n5_ : Aside0 (w81.heap[gb374]? = some (.cells #[.int .i64 t371, .int .i64 t372] 23 (0, 0))) := ⟨h5_⟩
                have n6_ : Aside0 (w81.heap[gb378]? = some (.cells #[.int .i64 t375, .int .i64 t376] 23 (0, 0))) := ⟨h6_⟩
                have n7_ : Aside0 (w81.heap[gb384]? = some (.cells #[.int .i64 0, .int .i64 0] 23 (0, 0))) := ⟨h7_⟩
                have n8_ : Aside0 (w.heap.size ≤ gb384) := ⟨h8_⟩
                have n9_ : Aside0 (w.heap.size ≤ gb384) := ⟨h9_⟩
                have n10_ : Aside0 (gb350 ≠ gb384) := ⟨h10_⟩
                have n11_ : Aside0 (gb384 ≠ gb350) := ⟨h11_⟩
                have n12_ : Aside0 (gb356 ≠ gb384) := ⟨h12_⟩
                have n13_ : Aside0 (gb384 ≠ gb356) := ⟨h13_⟩
                have n14_ : Aside0 (gb362 ≠ gb384) := ⟨h14_⟩
                have n15_ : Aside0 (gb384 ≠ gb362) := ⟨h15_⟩
                have n16_ : Aside0 (gb366 ≠ gb384) := ⟨h16_⟩
                have n17_ : Aside0 (gb384 ≠ gb366) := ⟨h17_⟩
                have n18_ : Aside0 (gb370 ≠ gb384) := ⟨h18_⟩
                have n19_ : Aside0 (gb384 ≠ gb370) := ⟨h19_⟩
                have n20_ : Aside0 (gb374 ≠ gb384) := ⟨h20_⟩
                have n21_ : Aside0 (gb384 ≠ gb374) := ⟨h21_⟩
                have n22_ : Aside0 (gb378 ≠ gb384) := ⟨h22_⟩
                have n23_ : Aside0 (gb384 ≠ gb378) := ⟨h23_⟩
                have n24_ : Aside0 (Below w.heap.size w w81) := ⟨h24_⟩
                clear BK350
                clear BK356
                clear BK362
                clear BK366
                clear BK370
                clear BK374
                clear BK378
                clear HB
                clear h0_ h1_ h2_ h3_ h4_ h5_ h6_ h7_ h8_ h9_ h10_ h11_ h12_ h13_ h14_ h15_ h16_ h17_ h18_ h19_ h20_ h21_ h22_ h23_ h24_
                have BK350 := n0_
                have BK356 := n1_
                have BK362 := n2_
                have BK366 := n3_
                have BK370 := n4_
                have BK374 := n5_
                have BK378 := n6_
                have BK384 := n7_
                have GW384 := n8_
                have GE384 := n9_
                have NB350_384 := n10_
                have NB384_350 := n11_
                have NB356_384 := n12_
                have NB384_356 := n13_
                have NB362_384 := n14_
                have NB384_362 := n15_
                have NB366_384 := n16_
                have NB384_366 := n17_
                have NB370_384 := n18_
                have NB384_370 := n19_
                have NB374_384 := n20_
                have NB384_374 := n21_
                have NB378_384 := n22_
                have NB384_378 := n23_
                have HB := n24_
                clear n0_ n1_ n2_ n3_ n4_ n5_ n6_ n7_ n8_ n9_ n10_ n11_ n12_ n13_ n14_ n15_ n16_ n17_ n18_ n19_ n20_ n21_ n22_ n23_ n24_
                have hHeld : w81.cell? ⟨gb350, 0, none⟩ = some (.int .i64 t347) ∧ w81.cell? ⟨gb350, 1, none⟩ = some (.int .i64 t348) := hS_
                refine norm_ (a' := ?_) ?_ ?_
                rotate_left
                · simp only [putAll, Act.put, List.setIfInBounds_toArray, List.set_cons_zero, List.set_cons_succ]
                  rfl
                refine one_ (i := 7) (N := none) #[true, true, true, true, true, true, true, true, false] rfl rfl (one_of HT_.out (by kernel_rfl)) (by decide) (fun K hK => ?_)
                have hs82 : w81.cell? ⟨gb384, 0, none⟩ = some (.int .i64 0) := (blk_cell BK384.out 0).trans rfl
                have hfs82 := blk_frozen BK384.out 0
                have hns82_0 := NB350_384.out
                have hns82_1 := NB356_384.out
                have hns82_2 := NB362_384.out
                have hns82_3 := NB366_384.out
                have hns82_4 := NB370_384.out
                have hns82_5 := NB374_384.out
                have hns82_6 := NB378_384.out
                have hms82_0 := NB384_350.out
                have hms82_1 := NB384_356.out
                have hms82_2 := NB384_362.out
                have hms82_3 := NB384_366.out
                have hms82_4 := NB384_370.out
                have hms82_5 := NB384_374.out
                have hms82_6 := NB384_378.out
                have hs83 : w81.cell? ⟨gb384, 1, none⟩ = some (.int .i64 0) := (blk_cell BK384.out 1).trans rfl
                have hfs83 := blk_frozen BK384.out 1
                have hns83_0 := NB350_384.out
                have hns83_1 := NB356_384.out
                have hns83_2 := NB362_384.out
                have hns83_3 := NB366_384.out
                have hns83_4 := NB370_384.out
                have hns83_5 := NB374_384.out
                have hns83_6 := NB378_384.out
                have hms83_0 := NB384_350.out
                have hms83_1 := NB384_356.out
                have hms83_2 := NB384_362.out
                have hms83_3 := NB384_366.out
                have hms83_4 := NB384_370.out
                have hms83_5 := NB384_374.out
                have hms83_6 := NB384_378.out
                refine skip_ (w1 := ?_) (by rfl) rfl ?_ ?_
                rotate_left
                · go_simp
                  rfl
                refine hK.out _ _ ⟨((cell_far (p := ⟨gb384, _, none⟩) NB350_384.out _).trans (((cell_far (p := ⟨gb384, _, none⟩) NB350_384.out _).trans (hHeld.1)))), ((cell_far (p := ⟨gb384, _, none⟩) NB350_384.out _).trans (((cell_far (p := ⟨gb384, _, none⟩) NB350_384.out _).trans (hHeld.2))))⟩ (fun hHeld => ?_)
                clear hK K
                refine pure_ (i := 8) (N := some 23) (v := ?_) (a' := ?_) #[true, true, true, true, true, true, true, true, true] rfl rfl (any_of HT_.out (by kernel_rfl)) (fun _ _ _ h => h) (Or.inl ⟨by rfl, ?_⟩) ?_ ?_
                rotate_left
                · intro w'
                  go_simp
                  with_reducible rfl
                rotate_left
                · simp only [Act.put, List.setIfInBounds_toArray, List.set_cons_zero, List.set_cons_succ, i64_w, i32_w]
                  rfl
                refine done_ (done_of HT_.out (by kernel_rfl)) ?_
                have hnb84 := NB370_384.out
                have hnc84 := NB384_370.out
                have hcz85_0 : w81.cell? ⟨gb370, 0, none⟩ = some (.int .i64 t367) := (blk_cell BK370.out 0).trans rfl
                have hcz85_1 : w81.cell? ⟨gb370, 1, none⟩ = some (.int .i64 t368) := (blk_cell BK370.out 1).trans rfl
                have hfz85_0 := blk_frozen BK370.out 0
                have hfz85_1 := blk_frozen BK370.out 1
                have hnb86 := NB378_384.out
                have hnc86 := NB384_378.out
                have hcz87_0 : w81.cell? ⟨gb378, 0, none⟩ = some (.int .i64 t375) := (blk_cell BK378.out 0).trans rfl
                have hcz87_1 : w81.cell? ⟨gb378, 1, none⟩ = some (.int .i64 t376) := (blk_cell BK378.out 1).trans rfl
                have hfz87_0 := blk_frozen BK378.out 0
                have hfz87_1 := blk_frozen BK378.out 1
                have hnb88 := NB384_350.out
                have hnc88 := NB350_384.out
                have hnb89 := NB384_356.out
                have hnc89 := NB356_384.out
                have hnb90 := NB384_362.out
                have hnc90 := NB362_384.out
                have hnb91 := NB384_366.out
                have hnc91 := NB366_384.out
                have hnb92 := NB384_374.out
                have hnc92 := NB374_384.out
                have hcz93_0 : w81.cell? ⟨gb384, 0, none⟩ = some (.int .i64 0) := (blk_cell BK384.out 0).trans rfl
                have hcz93_1 : w81.cell? ⟨gb384, 1, none⟩ = some (.int .i64 0) := (blk_cell BK384.out 1).trans rfl
                have hfz93_0 := blk_frozen BK384.out 0
                have hfz93_1 := blk_frozen BK384.out 1
                have hcz94_0 : w81.cell? ⟨gb350, 0, none⟩ = some (.int .i64 t347) := (blk_cell BK350.out 0).trans rfl
                have hcz94_1 : w81.cell? ⟨gb350, 1, none⟩ = some (.int .i64 t348) := (blk_cell BK350.out 1).trans rfl
                have hfz94_0 := blk_frozen BK350.out 0
                have hfz94_1 := blk_frozen BK350.out 1
                try go_wp2
                go_ret
                exact ⟨by first | rfl | (simp [errW_none, errW_some] <;> rfl) | (simp [*, errW_none, errW_some] <;> rfl), by repeat (first | (with_reducible first | exact HB.out | apply below_alloc | apply pw_below_drewN | apply below_drew1 | refine below_set ?_ GE350.out | refine below_set ?_ GE356.out | refine below_set ?_ GE362.out | refine below_set ?_ GE366.out | refine below_set ?_ GE370.out | refine below_set ?_ GE374.out | refine below_set ?_ GE378.out | refine below_set ?_ GE384.out) | exact HB.out)⟩
              · rw [if_neg c23] at H
                exact absurd H (by simp)
            · rw [if_neg c22] at H
              exact absurd H (by simp)
          · rw [if_neg c21] at H
            exact absurd H (by simp)
        · rw [if_neg c20] at H
          exact absurd H (by simp)
      · rw [if_neg c19] at H
        exact absurd H (by simp)
    · rw [if_neg c18] at H
      exact absurd H (by simp)
  · replace c17 := Bool.eq_false_iff.mpr c17
    subst c17
    have H1 : (none) = some r := by rw [if_neg (show ¬ (false = true) by decide)] at H; exact H
    clear H
    have H := H1
    clear H1
    exact absurd H (by simp)

end Go.Proofs.Ytbiijcehgiibeaa.Q
