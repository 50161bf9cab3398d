/- The law EditLeast over the printed functions: see the text that is imported. -/
import Derived.Test.YtedbgikpblbpcaaPureD
